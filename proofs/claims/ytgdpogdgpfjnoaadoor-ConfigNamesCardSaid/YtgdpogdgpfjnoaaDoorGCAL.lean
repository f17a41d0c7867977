import Derived.Test.YtgdpogdgpfjnoaaDoorGCAK
import Derived.Test.YtgdpogdgpfjnoaaDoorGCAI
import Derived.Test.YtgdpogdgpfjnoaaDoorGCAJ
import Derived.Laws.Strings
import Derived.Laws.Concat
import Derived.Lib.Strings
import Derived.Test.YtgdpogdgpfjnoaaDoorRows
import Derived.Test.YtgdpogdgpfjnoaaDoorTie
import Derived.Test.YtgdpogdgpfjnoaaDoorCards
import Derived.Deep.DeepHandedRow
import Derived.Deep.DeepLaidRun
import Derived.LaidSub
import Derived.SevenTiedAt
import Derived.Lib.Builder
import Derived.Lib.AppendStr
import Derived.Lib.Walk
import Derived.WalkKit
import Derived.RangeFuncRecord
import Derived.Lib.ItoaLen
import Derived.Lib.Atoi
set_option linter.all false
namespace Go.Proofs.YtgdpogdgpfjnoaaDoor
open Go.RowKit Go.Sort Sx
structure Pt where
  id : Int
  a : Int
  b : Int
  deriving DecidableEq, Inhabited
def Pt.c (p : Pt) : List D := [i64 p.id, i64 p.a, i64 p.b]
abbrev Pt.dc (p : Pt) : DC := pt p.id p.a p.b
abbrev pts (l : List Pt) : D := .list 3 (l.map Pt.c)
abbrev fld (l : List Pt) : DC := .agg [pts l]
def Pt.chk (p : Pt) : Int := cpt p.id p.a p.b
def incr : List Pt → Bool
  | p :: q :: l => decide (p.id < q.id) && incr (q :: l)
  | _ => true
def fchk (l : List Pt) : Int := if 64 < l.length then 4 else if l.all (fun p => p.chk == 0) then (if incr l then 0 else 32) else 8
theorem Pt.chk_08 (p : Pt) : p.chk = 0 ∨ p.chk = 8 := cpt_08 p.id p.a p.b
theorem pts_get {l : List Pt} {i : Nat} (h : i < l.length) : (l.map Pt.c)[((i : Nat) : Int).toNat]? = some [i64 l[i].id, i64 l[i].a, i64 l[i].b] := by
  rw [Int.toNat_natCast, List.getElem?_map, List.getElem?_eq_getElem h]; rfl
theorem pts_get' {l : List Pt} {i : Nat} {j : Int} (h : i < l.length) (e : j.toNat = i) : (l.map Pt.c)[j.toNat]? = some [i64 l[i].id, i64 l[i].a, i64 l[i].b] := by
  rw [e, List.getElem?_map, List.getElem?_eq_getElem h]; rfl
theorem wd_pts {l : List Pt} (h : WD (pts l)) : l.length ≤ 9223372036854775807 ∧ ∀ p ∈ l, (-9223372036854775808 ≤ p.id ∧ p.id ≤ 9223372036854775807) ∧ (-9223372036854775808 ≤ p.a ∧ p.a ≤ 9223372036854775807) ∧ (-9223372036854775808 ≤ p.b ∧ p.b ≤ 9223372036854775807) := by
  obtain ⟨h1, _, h3⟩ := WD_list.1 h
  refine ⟨by simpa using h1, fun p hp => ?_⟩
  have h4 := h3 p.c (List.mem_map_of_mem hp)
  exact ⟨wd_i64.1 (h4 _ (by simp [Pt.c])), wd_i64.1 (h4 _ (by simp [Pt.c])), wd_i64.1 (h4 _ (by simp [Pt.c]))⟩
theorem all_take_succ {l : List Pt} {f : Pt → Bool} {i : Nat} (h : i < l.length) : (l.take (i + 1)).all f = ((l.take i).all f && f l[i]) := by
  rw [List.take_succ_eq_append_getElem h, List.all_append]; simp
theorem incr_iff : ∀ {l : List Pt}, incr l = true ↔ ∀ i (h : i + 1 < l.length), l[i].id < l[i + 1].id
  | [] => by simp [incr]
  | [p] => by simp [incr]
  | p :: q :: l => by
    rw [incr, Bool.and_eq_true, decide_eq_true_eq, incr_iff]
    constructor
    · rintro ⟨h1, h2⟩ i h
      cases i with
      | zero => exact h1
      | succ i => exact h2 i (by simpa using h)
    · exact fun h => ⟨h 0 (by simp), fun i hi => h (i + 1) (by simpa using hi)⟩
theorem fCheck_fn (l : List Pt) : FnOK Tryd.prog 49 [fld l] (ret1 (fchk l)) := by
  refine fn_ok (by kernel_rfl) ty_ok Tryd.func49 rfl (fun _ _ => Tryd.call49 _ _) rfl ?_
  intro hw
  simp only [WDCs, WDC, WDs] at hw
  obtain ⟨w1, w2⟩ := wd_pts hw.1.1
  repeat' ((conv => whnf); first | (with_reducible first | refine br_t ?_ | refine br_f ?_ | refine za ?_ | refine zg ?_) | rw [List.length_map] | refine zp ?_ | refine zq ?_ | (with_reducible first | refine bc (fun h => ?_) (fun h => ?_) | refine zt ?_ | refine zf ?_ | refine br_i (fun h => ?_) (fun h => ?_)) | refine zg ?_ | refine zi ?_ | refine zb ?_)
  · conv => whnf
    unfold fchk
    rw [if_pos (by omega)]
  unfold fchk
  rw [if_neg (by omega)]
  refine loop_J (by kernel_rfl) ty_ok (σ := Nat) (fun i => [(15, sV (.int .i64 i))]) (fun _ => []) (fun i => i ≤ l.length ∧ (l.take i).all (fun p => p.chk == 0) = true) (fun i => l.length - i) 0 ⟨by omega, by simp⟩ ?_ ?_
  · (conv => whnf); exact zent
  rintro i ⟨hi, hI⟩
  rcases Nat.lt_or_ge i l.length with hlt | hge
  · have hel := pts_get hlt
    have HC := kCheck_fn l[i].id l[i].a l[i].b
    rcases Pt.chk_08 l[i] with hc | hc
    · unfold Pt.chk at hc
      rw [hc] at HC
      repeat' ((conv => whnf); first | (with_reducible first | refine br_t ?_ | refine br_f ?_ | refine za ?_ | refine zg ?_ | refine xi (HC) ?_) | rw [List.length_map] | refine zp ?_ | refine zq ?_ | (with_reducible first | refine bc (fun h => ?_) (fun h => ?_) | refine zt ?_ | refine zf ?_ | refine br_i (fun h => ?_) (fun h => ?_)) | refine zg ?_ | refine zi ?_ | refine zb ?_)
      all_goals conv => whnf
      refine ⟨i + 1, ⟨by omega, ?_⟩, ?_, by omega⟩
      · rw [all_take_succ hlt, hI]; simp [Pt.chk, hc]
      · (conv => whnf); exact zent
    · have hn : l.all (fun p => p.chk == 0) = false := by
        rw [Bool.eq_false_iff]
        intro h
        have := List.all_eq_true.1 h l[i] (List.getElem_mem hlt)
        rw [hc] at this; simp at this
      unfold Pt.chk at hc
      rw [hc] at HC
      repeat' ((conv => whnf); first | (with_reducible first | refine br_t ?_ | refine br_f ?_ | refine za ?_ | refine zg ?_ | refine xi (HC) ?_) | rw [List.length_map] | refine zp ?_ | refine zq ?_ | (with_reducible first | refine bc (fun h => ?_) (fun h => ?_) | refine zt ?_ | refine zf ?_ | refine br_i (fun h => ?_) (fun h => ?_)) | refine zg ?_ | refine zi ?_ | refine zb ?_)
      all_goals conv => whnf
      rw [hn]; rfl
  · have hall : l.all (fun p => p.chk == 0) = true := by rw [List.take_of_length_le hge] at hI; exact hI
    rw [hall, if_pos rfl]
    repeat' ((conv => whnf); first | (with_reducible first | refine br_t ?_ | refine br_f ?_ | refine za ?_ | refine zg ?_) | rw [List.length_map] | refine zp ?_ | refine zq ?_ | (with_reducible first | refine bc (fun h => ?_) (fun h => ?_) | refine zt ?_ | refine zf ?_ | refine br_i (fun h => ?_) (fun h => ?_)) | refine zg ?_ | refine zi ?_ | refine zb ?_)
    refine loop_J (by kernel_rfl) ty_ok (σ := Nat) (fun i => [(28, sV (.int .i64 i))]) (fun _ => []) (fun i => i ≤ l.length ∧ ∀ j (h : j + 1 < l.length), j + 1 < i → l[j].id < l[j + 1].id) (fun i => l.length - i) 0 ⟨by omega, fun j _ h => by omega⟩ ?_ ?_
    · (conv => whnf); exact zent
    rintro j ⟨hj, hJ⟩
    rcases Nat.lt_or_ge j l.length with hjlt | hjge
    · have hel := pts_get hjlt
      rcases Nat.eq_zero_or_pos j with h0 | h0
      · subst h0
        repeat' ((conv => whnf); first | (with_reducible first | refine br_t ?_ | refine br_f ?_ | refine za ?_ | refine zg ?_) | rw [List.length_map] | refine zp ?_ | refine zq ?_ | (with_reducible first | refine bc (fun h => ?_) (fun h => ?_) | refine zt ?_ | refine zf ?_ | refine br_i (fun h => ?_) (fun h => ?_)) | refine zg ?_ | refine zi ?_ | refine zb ?_)
        all_goals conv => whnf
        refine ⟨1, ⟨by omega, fun k _ h => by omega⟩, ?_, by omega⟩
        (conv => whnf); exact zent
      · have hel2 := pts_get' (l := l) (i := j - 1) (j := IntKind.i64.wrap ((j : Int) - 1)) (by omega) (by rw [IntWalk.i64_in _ (by omega)]; omega)
        have hw1 : IntKind.i64.wrap ((j : Int) - 1) = ((j - 1 : Nat) : Int) := by rw [IntWalk.i64_in _ (by omega)]; omega
        repeat' ((conv => whnf); first | (with_reducible first | refine br_t ?_ | refine br_f ?_ | refine za ?_ | refine zg ?_) | rw [List.length_map] | refine And.intro (by rw [hw1]; omega) ?_ | refine zp ?_ | refine zq ?_ | (with_reducible first | refine bc (fun h => ?_) (fun h => ?_) | refine zt ?_ | refine zf ?_ | refine br_i (fun h => ?_) (fun h => ?_)) | refine zg ?_ | refine zi ?_ | refine zb ?_)
        all_goals conv => whnf
        · rename_i h
          have hf : incr l = false := by
            rw [Bool.eq_false_iff, ne_eq, incr_iff]
            intro hh
            have := hh (j - 1) (by omega)
            rw [show l[j - 1 + 1]'(by omega) = l[j] from getElem_congr rfl (by omega) _] at this
            omega
          rw [hf]; rfl
        · rename_i h
          refine ⟨j + 1, ⟨by omega, fun k hk hk2 => ?_⟩, ?_, by omega⟩
          · rcases Nat.lt_or_ge (k + 1) j with h1 | h1
            · exact hJ k hk h1
            · have e : k = j - 1 := by omega
              subst e
              rw [show l[j - 1 + 1]'hk = l[j] from getElem_congr rfl (by omega) _]
              omega
          · (conv => whnf); exact zent
    · have ht : incr l = true := incr_iff.2 fun k hk => hJ k hk (by omega)
      repeat' ((conv => whnf); first | (with_reducible first | refine br_t ?_ | refine br_f ?_ | refine za ?_ | refine zg ?_) | rw [List.length_map] | refine zp ?_ | refine zq ?_ | (with_reducible first | refine bc (fun h => ?_) (fun h => ?_) | refine zt ?_ | refine zf ?_ | refine br_i (fun h => ?_) (fun h => ?_)) | refine zg ?_ | refine zi ?_ | refine zb ?_)
      all_goals conv => whnf
      all_goals
        rw [ht]; rfl
theorem rfCheck_fn (l : List Pt) : FnOK Tryd.prog 51 [fld l] (ret1 (fchk l)) := by
  refine fn_ok (by kernel_rfl) ty_ok Tryd.func51 rfl (fun _ _ => Tryd.call51 _ _) rfl ?_
  intro hw
  simp only [WDCs, WDC, WDs] at hw
  obtain ⟨w1, w2⟩ := wd_pts hw.1.1
  repeat' ((conv => whnf); first | (with_reducible first | refine br_t ?_ | refine br_f ?_ | refine za ?_ | refine zg ?_) | rw [List.length_map] | refine zp ?_ | refine zq ?_ | (with_reducible first | refine bc (fun h => ?_) (fun h => ?_) | refine zt ?_ | refine zf ?_ | refine br_i (fun h => ?_) (fun h => ?_)) | refine zg ?_ | refine zi ?_ | refine zb ?_)
  · conv => whnf
    unfold fchk
    rw [if_pos (by omega)]
  unfold fchk
  rw [if_neg (by omega)]
  refine loop_J (by kernel_rfl) ty_ok (σ := Nat) (fun i => [(3, sV (.int .i64 i))]) (fun _ => []) (fun i => i ≤ l.length ∧ (l.take i).all (fun p => p.chk == 0) = true) (fun i => l.length - i) 0 ⟨by omega, by simp⟩ ?_ ?_
  · (conv => whnf); exact zent
  rintro i ⟨hi, hI⟩
  rcases Nat.lt_or_ge i l.length with hlt | hge
  · have hel := pts_get hlt
    have HC := kkCheck_fn l[i].id l[i].a l[i].b
    rcases Pt.chk_08 l[i] with hc | hc
    · unfold Pt.chk at hc
      rw [hc] at HC
      repeat' ((conv => whnf); first | (with_reducible first | refine br_t ?_ | refine br_f ?_ | refine za ?_ | refine zg ?_ | refine xi (HC) ?_) | rw [List.length_map] | refine zp ?_ | refine zq ?_ | (with_reducible first | refine bc (fun h => ?_) (fun h => ?_) | refine zt ?_ | refine zf ?_ | refine br_i (fun h => ?_) (fun h => ?_)) | refine zg ?_ | refine zi ?_ | refine zb ?_)
      all_goals conv => whnf
      refine ⟨i + 1, ⟨by omega, ?_⟩, ?_, by omega⟩
      · rw [all_take_succ hlt, hI]; simp [Pt.chk, hc]
      · (conv => whnf); exact zent
    · have hn : l.all (fun p => p.chk == 0) = false := by
        rw [Bool.eq_false_iff]
        intro h
        have := List.all_eq_true.1 h l[i] (List.getElem_mem hlt)
        rw [hc] at this; simp at this
      unfold Pt.chk at hc
      rw [hc] at HC
      repeat' ((conv => whnf); first | (with_reducible first | refine br_t ?_ | refine br_f ?_ | refine za ?_ | refine zg ?_ | refine xi (HC) ?_) | rw [List.length_map] | refine zp ?_ | refine zq ?_ | (with_reducible first | refine bc (fun h => ?_) (fun h => ?_) | refine zt ?_ | refine zf ?_ | refine br_i (fun h => ?_) (fun h => ?_)) | refine zg ?_ | refine zi ?_ | refine zb ?_)
      all_goals conv => whnf
      rw [hn]; rfl
  · have hall : l.all (fun p => p.chk == 0) = true := by rw [List.take_of_length_le hge] at hI; exact hI
    rw [hall, if_pos rfl]
    repeat' ((conv => whnf); first | (with_reducible first | refine br_t ?_ | refine br_f ?_ | refine za ?_ | refine zg ?_) | rw [List.length_map] | refine zp ?_ | refine zq ?_ | (with_reducible first | refine bc (fun h => ?_) (fun h => ?_) | refine zt ?_ | refine zf ?_ | refine br_i (fun h => ?_) (fun h => ?_)) | refine zg ?_ | refine zi ?_ | refine zb ?_)
    refine loop_J (by kernel_rfl) ty_ok (σ := Nat) (fun i => [(4, sV (.int .i64 ((i + 1 : Nat) : Int)))]) (fun _ => []) (fun i => i ≤ l.length ∧ ∀ j (h : j + 1 < l.length), j < i → l[j].id < l[j + 1].id) (fun i => l.length - i) 0 ⟨by omega, fun j _ h => by omega⟩ ?_ ?_
    · (conv => whnf); exact zent
    rintro j ⟨hj, hJ⟩
    rcases Nat.lt_or_ge (j + 1) l.length with hjlt | hjge
    · have hel := pts_get hjlt
      have hel2 := pts_get' (l := l) (i := j) (j := IntKind.i64.wrap (((j + 1 : Nat) : Int) - 1)) (by omega) (by rw [IntWalk.i64_in _ (by omega)]; omega)
      have hw1 : IntKind.i64.wrap (((j + 1 : Nat) : Int) - 1) = (j : Int) := by rw [IntWalk.i64_in _ (by omega)]; omega
      repeat' ((conv => whnf); first | (with_reducible first | refine br_t ?_ | refine br_f ?_ | refine za ?_ | refine zg ?_) | rw [List.length_map] | refine And.intro (by rw [hw1]; omega) ?_ | refine zp ?_ | refine zq ?_ | (with_reducible first | refine bc (fun h => ?_) (fun h => ?_) | refine zt ?_ | refine zf ?_ | refine br_i (fun h => ?_) (fun h => ?_)) | refine zg ?_ | refine zi ?_ | refine zb ?_)
      all_goals conv => whnf
      · rename_i h
        have hf : incr l = false := by
          rw [Bool.eq_false_iff, ne_eq, incr_iff]
          intro hh
          have := hh j (by omega)
          omega
        rw [hf]; rfl
      · rename_i h
        refine ⟨j + 1, ⟨by omega, fun k hk hk2 => ?_⟩, ?_, by omega⟩
        · rcases Nat.lt_or_ge k j with h1 | h1
          · exact hJ k hk h1
          · have e : k = j := by omega
            subst e
            omega
        · (conv => whnf); exact zent
    · have ht : incr l = true := incr_iff.2 fun k hk => hJ k hk (by omega)
      repeat' ((conv => whnf); first | (with_reducible first | refine br_t ?_ | refine br_f ?_ | refine za ?_ | refine zg ?_) | rw [List.length_map] | refine zp ?_ | refine zq ?_ | (with_reducible first | refine bc (fun h => ?_) (fun h => ?_) | refine zt ?_ | refine zf ?_ | refine br_i (fun h => ?_) (fun h => ?_)) | refine zg ?_ | refine zi ?_ | refine zb ?_)
      all_goals conv => whnf
      all_goals
        rw [ht]; rfl
end Go.Proofs.YtgdpogdgpfjnoaaDoor

namespace Go.Proofs.YtgdpogdgpfjnoaaDoor
open Go Go.RowKit Sx
theorem fits_point {ds : List D} (h : Fits shPoint ds) : ∃ p : Pt, ds = p.c := by
  obtain ⟨_, _, rfl, ⟨n, rfl⟩, _, _, rfl, ⟨m, rfl⟩, _, _, rfl, ⟨k, rfl⟩, rfl⟩ := h
  exact ⟨⟨n, m, k⟩, rfl⟩
theorem fits_pts {ds : List D} (h : Fits (.sl 3 shPoint) ds) : ∃ l : List Pt, ds = [pts l] := by
  obtain ⟨l, rfl, h⟩ := h
  obtain ⟨l', rfl⟩ := exists_map (f := Pt.c) fun x hx => fits_point (h x hx)
  exact ⟨l', rfl⟩
theorem fits_field {ds : List D} (h : Fits shField ds) : ∃ l : List Pt, ds = [pts l] := by
  obtain ⟨_, _, rfl, h, rfl⟩ := h
  obtain ⟨l, rfl⟩ := fits_pts h
  exact ⟨l, rfl⟩
end Go.Proofs.YtgdpogdgpfjnoaaDoor

namespace Go.Proofs.YtgdpogdgpfjnoaaDoor
open Go.RowKit Go.Sort Sx
def has (l : List Pt) (id : Int) : Bool := l.any fun p => p.id == id
end Go.Proofs.YtgdpogdgpfjnoaaDoor

namespace Go.Proofs.YtgdpogdgpfjnoaaDoor
open Go.RowKit Go.Sort Sx
theorem fchk_ok {l : List Pt} (h : fchk l = 0) : l.length ≤ 64 ∧ (∀ p ∈ l, p.chk = 0) ∧ incr l = true := by
  unfold fchk at h
  split at h
  · omega
  · split at h
    · rename_i h1 h2
      split at h
      · rename_i h3
        exact ⟨by omega, fun p hp => by simpa using List.all_eq_true.1 h2 p hp, h3⟩
      · omega
    · omega
def great (l : List Pt) : Bool := decide (16 < l.length ∧ l.length < 64 ∨ 70 < l.length)
theorem rfGreat_fn (l : List Pt) : FnOK Tryd.prog 8 [fld l] (.c (.one (bol (great l)))) := by
  refine fn_ok (by kernel_rfl) ty_ok Tryd.func8 rfl (fun _ _ => Tryd.call8 _ _) rfl ?_
  intro hw
  simp only [WDCs, WDC, WDs] at hw
  obtain ⟨w1, w2⟩ := wd_pts hw.1.1
  unfold great
  repeat' ((conv => whnf); first | (with_reducible first | refine br_t ?_ | refine br_f ?_ | refine za ?_ | refine zg ?_) | rw [List.length_map] | refine zp ?_ | refine zq ?_ | (with_reducible first | refine bc (fun h => ?_) (fun h => ?_) | refine zt ?_ | refine zf ?_ | refine br_i (fun h => ?_) (fun h => ?_)) | refine zg ?_ | refine zi ?_ | refine zb ?_)
  all_goals conv => whnf
  all_goals
    refine r_bool ?_
    first
    | rfl
    | (simp only [decide_eq_decide, Bool.true_eq, Bool.false_eq, decide_eq_true_eq, decide_eq_false_iff_not]; omega)
    | (rw [eq_comm]; simp only [decide_eq_decide, decide_eq_true_eq, decide_eq_false_iff_not]; omega)
end Go.Proofs.YtgdpogdgpfjnoaaDoor

namespace Go.Proofs.YtgdpogdgpfjnoaaDoor
open Go.RowKit Go.Sort Sx
theorem Pt.eq_iff {p q : Pt} : p = q ↔ p.id = q.id ∧ p.a = q.a ∧ p.b = q.b := by
  cases p; cases q; simp
theorem take_all_eq {α : Type} {a b : List α} {i : Nat} (h : a.take i = b.take i) (hl : a.length = b.length) (hi : a.length ≤ i) : a = b := by
  rw [List.take_of_length_le hi, List.take_of_length_le (by omega)] at h; exact h
theorem take_succ_eq {α : Type} {a b : List α} {i : Nat} (h : a.take i = b.take i) (h1 : i < a.length) (h2 : i < b.length) (e : a[i] = b[i]) : a.take (i + 1) = b.take (i + 1) := by
  rw [List.take_succ_eq_append_getElem h1, List.take_succ_eq_append_getElem h2, h, e]
theorem ne_of_get {α : Type} {a b : List α} {i : Nat} (h1 : i < a.length) (h2 : i < b.length) (e : a[i] ≠ b[i]) : a ≠ b := by
  rintro rfl; exact e rfl
structure Md where
  n : Int
  d : Int
  l : List Pt
  deriving DecidableEq, Inhabited
def Md.c (m : Md) : List D := [i64 m.n, i64 m.d, pts m.l]
abbrev Md.dc (m : Md) : DC := .agg [i64 m.n, i64 m.d, pts m.l]
def mchk (m : Md) : Int := if askd m.n m.d = 0 ∧ fchk m.l = 0 then 0 else 8
theorem mchk_08 (m : Md) : mchk m = 0 ∨ mchk m = 8 := by unfold mchk; split <;> simp
theorem mchk_ok {m : Md} (h : mchk m = 0) : askd m.n m.d = 0 ∧ fchk m.l = 0 := by
  unfold mchk at h
  split at h
  · assumption
  · omega
theorem mchk_orN (m : Md) : mchk m = if orN (askd m.n m.d) (fchk m.l) = 0 then 0 else 8 := by
  unfold mchk orN
  by_cases h : askd m.n m.d = 0 <;> simp [h]
theorem rfSame_fn (a b : List Pt) : FnOK Tryd.prog 42 [fld a, fld b] (.c (.one (bol (decide (a = b))))) := by
  refine fn_ok (by kernel_rfl) ty_ok Tryd.func42 rfl (fun _ _ => Tryd.call42 _ _) rfl ?_
  intro hw
  simp only [WDCs, WDC, WDs] at hw
  obtain ⟨w1, _⟩ := wd_pts hw.1.1
  obtain ⟨w2, _⟩ := wd_pts hw.2.1.1
  clear hw
  by_cases h0 : a.length = b.length
  · repeat' ((conv => whnf); first | (with_reducible first | refine br_t ?_ | refine br_f ?_ | refine za ?_ | refine zg ?_) | rw [List.length_map] | refine zp ?_ | refine zq ?_ | (with_reducible first | refine bc (fun h => ?_) (fun h => ?_) | refine zt ?_ | refine zf ?_ | refine br_i (fun h => ?_) (fun h => ?_) | refine xi (pv_bool fun _ => nev46 _ _ _ _ _ _ _ _ _) ?_) | refine zg ?_ | refine zi ?_ | refine zb ?_)
    refine loop_J (by kernel_rfl) ty_ok (σ := Nat) (fun i => [(5, sV (.int .i64 i))]) (fun _ => []) (fun i => i ≤ a.length ∧ a.take i = b.take i) (fun i => a.length - i) 0 ⟨by omega, rfl⟩ ?_ ?_
    · (conv => whnf); exact zent
    rintro i ⟨hi, hI⟩
    rcases Nat.lt_or_ge i a.length with hlt | hge
    · have hb : i < b.length := by omega
      have he1 := pts_get hlt
      have he2 := pts_get hb
      by_cases hc : a[i] = b[i]
      · have hq := Pt.eq_iff.1 hc
        repeat' ((conv => whnf); first | (with_reducible first | refine br_t ?_ | refine br_f ?_ | refine za ?_ | refine zg ?_) | rw [List.length_map] | refine zp ?_ | refine zq ?_ | (with_reducible first | refine bc (fun h => ?_) (fun h => ?_) | refine zt ?_ | refine zf ?_ | refine br_i (fun h => ?_) (fun h => ?_) | refine xi (pv_bool fun _ => nev46 _ _ _ _ _ _ _ _ _) ?_) | refine zg ?_ | refine zi ?_ | refine zb ?_)
        all_goals conv => whnf
        refine ⟨i + 1, ⟨by omega, take_succ_eq hI hlt hb hc⟩, ?_, by omega⟩
        (conv => whnf); exact zent
      · have hq := mt Pt.eq_iff.2 hc
        rw [decide_eq_false (ne_of_get hlt hb hc)]
        repeat' ((conv => whnf); first | (with_reducible first | refine br_t ?_ | refine br_f ?_ | refine za ?_ | refine zg ?_) | rw [List.length_map] | refine zp ?_ | refine zq ?_ | (with_reducible first | refine bc (fun h => ?_) (fun h => ?_) | refine zt ?_ | refine zf ?_ | refine br_i (fun h => ?_) (fun h => ?_) | refine xi (pv_bool fun _ => nev46 _ _ _ _ _ _ _ _ _) ?_) | refine zg ?_ | refine zi ?_ | refine zb ?_)
        all_goals conv => whnf
        all_goals rfl
    · rw [decide_eq_true (take_all_eq hI h0 hge)]
      repeat' ((conv => whnf); first | (with_reducible first | refine br_t ?_ | refine br_f ?_ | refine za ?_ | refine zg ?_) | rw [List.length_map] | refine zp ?_ | refine zq ?_ | (with_reducible first | refine bc (fun h => ?_) (fun h => ?_) | refine zt ?_ | refine zf ?_ | refine br_i (fun h => ?_) (fun h => ?_) | refine xi (pv_bool fun _ => nev46 _ _ _ _ _ _ _ _ _) ?_) | refine zg ?_ | refine zi ?_ | refine zb ?_)
      all_goals conv => whnf
      all_goals rfl
  · rw [decide_eq_false (fun h => h0 (congrArg List.length h))]
    repeat' ((conv => whnf); first | (with_reducible first | refine br_t ?_ | refine br_f ?_ | refine za ?_ | refine zg ?_) | rw [List.length_map] | refine zp ?_ | refine zq ?_ | (with_reducible first | refine bc (fun h => ?_) (fun h => ?_) | refine zt ?_ | refine zf ?_ | refine br_i (fun h => ?_) (fun h => ?_) | refine xi (pv_bool fun _ => nev46 _ _ _ _ _ _ _ _ _) ?_) | refine zg ?_ | refine zi ?_ | refine zb ?_)
    all_goals conv => whnf
    all_goals rfl
theorem ofirst_fn (a b : Int) : FnOK Tryd.prog 47 [.one (.list 1 [[i64 a], [i64 b]])] (ret1 (orN a b)) := by
  refine fn_ok (by kernel_rfl) ty_ok Tryd.func47 rfl (fun _ _ => Tryd.call47 _ _) rfl ?_
  intro hw
  repeat' ((conv => whnf); first | (with_reducible first | refine br_t ?_ | refine br_f ?_ | refine za ?_ | refine zg ?_) | refine zp ?_ | refine zq ?_ | (with_reducible first | refine bc (fun h => ?_) (fun h => ?_) | refine zt ?_ | refine zf ?_ | refine br_i (fun h => ?_) (fun h => ?_)) | refine zg ?_ | refine zi ?_ | refine zb ?_)
  refine loop_J (by kernel_rfl) ty_ok (σ := Nat) (fun i => [(7, sV (.int .i64 i))]) (fun _ => []) (fun i => i = 0 ∨ (i = 1 ∧ a = 0) ∨ (i = 2 ∧ a = 0 ∧ b = 0)) (fun i => 2 - i) 0 (.inl rfl) ?_ ?_
  · (conv => whnf); exact zent
  intro i hi
  have hlen : ([[i64 a], [i64 b]] : List (List D)).length = 2 := rfl
  have hel0 : ([[i64 a], [i64 b]] : List (List D))[((0 : Nat) : Int).toNat]? = some [i64 a] := rfl
  have hel1 : ([[i64 a], [i64 b]] : List (List D))[((1 : Nat) : Int).toNat]? = some [i64 b] := rfl
  have q0 : 0 ≤ ((0 : Nat) : Int) ∧ ((0 : Nat) : Int) < (([[i64 a], [i64 b]] : List (List D)).length : Int) := ⟨by omega, by simp⟩
  have q1 : 0 ≤ ((1 : Nat) : Int) ∧ ((1 : Nat) : Int) < (([[i64 a], [i64 b]] : List (List D)).length : Int) := ⟨by omega, by simp⟩
  rcases hi with rfl | ⟨rfl, h1⟩ | ⟨rfl, h1, h2⟩
  · repeat' ((conv => whnf); first | (with_reducible first | refine br_t ?_ | refine br_f ?_ | refine za ?_ | refine zg ?_) | first | (refine (Exists.intro _ (And.intro (And.intro hel0 (Nat.le_of_ble_eq_true rfl)) ?_))) | (refine And.intro q0 ?_) | refine zp ?_ | refine zq ?_ | (with_reducible first | refine bc (fun h => ?_) (fun h => ?_) | refine zt ?_ | refine zf ?_ | refine br_i (fun h => ?_) (fun h => ?_)) | refine zg ?_ | refine zi ?_ | refine zb ?_)
    all_goals conv => whnf
    · refine r_int ?_
      unfold orN; rw [if_neg (by assumption)]
    · refine ⟨1, .inr (.inl ⟨rfl, by omega⟩), ?_, by show 2 - 1 < 2 - 0; decide⟩
      (conv => whnf); exact zent
  · repeat' ((conv => whnf); first | (with_reducible first | refine br_t ?_ | refine br_f ?_ | refine za ?_ | refine zg ?_) | first | (refine (Exists.intro _ (And.intro (And.intro hel1 (Nat.le_of_ble_eq_true rfl)) ?_))) | (refine And.intro q1 ?_) | refine zp ?_ | refine zq ?_ | (with_reducible first | refine bc (fun h => ?_) (fun h => ?_) | refine zt ?_ | refine zf ?_ | refine br_i (fun h => ?_) (fun h => ?_)) | refine zg ?_ | refine zi ?_ | refine zb ?_)
    all_goals conv => whnf
    · refine r_int ?_
      unfold orN; rw [if_pos h1]
    · refine ⟨2, .inr (.inr ⟨rfl, h1, by omega⟩), ?_, by show 2 - 2 < 2 - 1; decide⟩
      (conv => whnf); exact zent
  · repeat' ((conv => whnf); first | (with_reducible first | refine br_t ?_ | refine br_f ?_ | refine za ?_ | refine zg ?_) | refine zp ?_ | refine zq ?_ | (with_reducible first | refine bc (fun h => ?_) (fun h => ?_) | refine zt ?_ | refine zf ?_ | refine br_i (fun h => ?_) (fun h => ?_)) | refine zg ?_ | refine zi ?_ | refine zb ?_)
    all_goals conv => whnf
    refine r_int ?_
    unfold orN; rw [if_pos h1]; exact h2.symm
theorem oCheck_fn (m : Md) : FnOK Tryd.prog 23 [m.dc] (ret1 (mchk m)) := by
  refine fn_ok (by kernel_rfl) ty_ok Tryd.func23 rfl (fun _ _ => Tryd.call23 _ _) rfl ?_
  intro hw
  clear hw
  rw [mchk_orN]
  have H := ofirst_fn (askd m.n m.d) (fchk m.l)
  generalize orN (askd m.n m.d) (fchk m.l) = z at *
  by_cases h : z = 0
  all_goals
    repeat' ((conv => whnf); first | (with_reducible first | refine br_t ?_ | refine br_f ?_ | refine za ?_ | refine zg ?_ | refine xi (asked_fn _ _) ?_ | refine xi (fCheck_fn _) ?_) | refine zp ?_ | refine zq ?_ | (with_reducible first | refine bc (fun h => ?_) (fun h => ?_) | refine zt ?_ | refine zf ?_ | refine br_i (fun h => ?_) (fun h => ?_)) | refine zg ?_ | refine zi ?_ | refine zb ?_)
    all_goals conv => whnf
    all_goals simp [h]
theorem roCheck_fn (m : Md) : FnOK Tryd.prog 24 [m.dc] (ret1 (mchk m)) := by
  refine fn_ok (by kernel_rfl) ty_ok Tryd.func24 rfl (fun _ _ => Tryd.call24 _ _) rfl ?_
  intro hw
  clear hw
  unfold mchk
  have H1 := rasked_fn m.n m.d
  have H2 := rfCheck_fn m.l
  generalize askd m.n m.d = z at *
  generalize fchk m.l = y at *
  by_cases h : z = 0 <;> by_cases h' : y = 0
  all_goals
    repeat' ((conv => whnf); first | (with_reducible first | refine br_t ?_ | refine br_f ?_ | refine za ?_ | refine zg ?_) | refine zp ?_ | refine zq ?_ | (with_reducible first | refine bc (fun h => ?_) (fun h => ?_) | refine zt ?_ | refine zf ?_ | refine br_i (fun h => ?_) (fun h => ?_)) | refine zg ?_ | refine zi ?_ | refine zb ?_)
    all_goals conv => whnf
    all_goals simp [h, h']
theorem roSameModel_fn (m n : Md) : FnOK Tryd.prog 14 [m.dc, n.dc] (.c (.one (bol (decide (m = n))))) := by
  refine fn_ok (by kernel_rfl) ty_ok Tryd.func14 rfl (fun _ _ => Tryd.call14 _ _) rfl ?_
  intro hw
  clear hw
  have H := rfSame_fn m.l n.l
  have he : (m = n) ↔ (m.n = n.n ∧ m.d = n.d) ∧ m.l = n.l := by cases m; cases n; simp [and_assoc]
  rw [show decide (m = n) = decide ((m.n = n.n ∧ m.d = n.d) ∧ m.l = n.l) from decide_eq_decide.2 he]
  by_cases h : m.n = n.n ∧ m.d = n.d
  all_goals
    cases hz : decide (m.l = n.l)
    all_goals
      rw [hz] at H
      repeat' ((conv => whnf); first | (with_reducible first | refine br_t ?_ | refine br_f ?_ | refine za ?_ | refine zg ?_) | refine zp ?_ | refine zq ?_ | (with_reducible first | refine bc (fun h => ?_) (fun h => ?_) | refine zt ?_ | refine zf ?_ | refine br_i (fun h => ?_) (fun h => ?_) | refine xi (pv_bool fun _ => eqv23 _ _ _ _ _ _ _) ?_) | refine zg ?_ | refine zi ?_ | refine zb ?_)
      all_goals conv => whnf
      all_goals simp at hz
      all_goals simp [h, hz]
end Go.Proofs.YtgdpogdgpfjnoaaDoor

namespace Go.Proofs.YtgdpogdgpfjnoaaDoor
open Go Go.RowKit Sx
namespace Sx
def shModel : Sh := .st (.fc 2 shRatio (.fc 1 shField .f0))
end Sx
theorem fits_model {ds : List D} (h : Fits shModel ds) : ∃ m : Md, ds = m.c := by
  obtain ⟨_, _, rfl, h1, _, _, rfl, h2, rfl⟩ := h
  obtain ⟨n, d, rfl⟩ := fits_ratio h1
  obtain ⟨l, rfl⟩ := fits_field h2
  exact ⟨⟨n, d, l⟩, rfl⟩
theorem fit_model {c : DC} (h : FitC shModel c) : ∃ m : Md, c = m.dc := by
  obtain ⟨ds, rfl, h⟩ := h
  obtain ⟨m, rfl⟩ := fits_model h
  exact ⟨m, rfl⟩
end Go.Proofs.YtgdpogdgpfjnoaaDoor

namespace Go.Proofs.YtgdpogdgpfjnoaaDoor
open Go Go.RowKit Go.Sort Sx
abbrev u8 (n : Int) : D := .v (.int .u8 n)
structure Ak where
  k : Int
  p : Pt
  id : Int
  n : Int
  d : Int
  deriving DecidableEq, Inhabited
def Ak.c (a : Ak) : List D := [u8 a.k, i64 a.p.id, i64 a.p.a, i64 a.p.b, i64 a.id, i64 a.n, i64 a.d]
abbrev Ak.dc (a : Ak) : DC := .agg [u8 a.k, i64 a.p.id, i64 a.p.a, i64 a.p.b, i64 a.id, i64 a.n, i64 a.d]
def formV (a : Ak) : Bool :=
  decide ((a.k = 1 ∨ a.k = 3) ∧ a.id = 0 ∧ a.n = 0 ∧ a.d = 0 ∨ a.k = 2 ∧ a.p.id = 0 ∧ a.p.a = 0 ∧ a.p.b = 0 ∧ a.n = 0 ∧ a.d = 0 ∨ a.k = 4 ∧ a.p.id = 0 ∧ a.p.a = 0 ∧ a.p.b = 0 ∧ a.id = 0 ∨
    (a.k = 5 ∨ a.k = 6) ∧ a.p.id = 0 ∧ a.p.a = 0 ∧ a.p.b = 0 ∧ a.id = 0 ∧ a.n = 0 ∧ a.d = 0)
end Go.Proofs.YtgdpogdgpfjnoaaDoor

namespace Go.Proofs.YtgdpogdgpfjnoaaDoor
open Go Go.RowKit
namespace Sx
variable {P : Program} {sz : Nat} {E : Env} {H : Hp}
end Sx
end Go.Proofs.YtgdpogdgpfjnoaaDoor

namespace Go.Proofs.YtgdpogdgpfjnoaaDoor
open Go Go.RowKit Go.Sort Sx
abbrev bstr (l : List UInt8) : Value := .string ⟨l.toArray⟩
abbrev str (l : List UInt8) : Sx.D := .v (.string ⟨l.toArray⟩)
theorem str_toList (a : List UInt8) : (⟨a.toArray⟩ : ByteArray).toList = a := by rw [Lib.toList_data]
theorem str_size (a : List UInt8) : (⟨a.toArray⟩ : ByteArray).size = a.length := rfl
theorem str_append (a b : List UInt8) : (⟨a.toArray⟩ : ByteArray) ++ ⟨b.toArray⟩ = ⟨(a ++ b).toArray⟩ := by
  apply ByteArray.ext
  simp
theorem str_extract (a : List UInt8) (i j : Nat) : (⟨a.toArray⟩ : ByteArray).extract i j = ⟨((a.take j).drop i).toArray⟩ := by
  apply ByteArray.ext
  rw [ByteArray.data_extract]
  apply Array.ext'
  simp [List.extract_eq_take_drop, List.drop_take]
theorem str_get (a : List UInt8) (i : Nat) : (⟨a.toArray⟩ : ByteArray)[i]? = a[i]? := by
  by_cases h : i < a.length
  · have h' : i < (⟨a.toArray⟩ : ByteArray).size := h
    rw [List.getElem?_eq_getElem h, getElem?_pos (⟨a.toArray⟩ : ByteArray) i h']; rfl
  · have h' : ¬ i < (⟨a.toArray⟩ : ByteArray).size := h
    rw [List.getElem?_eq_none (by omega), getElem?_neg (⟨a.toArray⟩ : ByteArray) i h']
theorem run_cat {P : Program} {t : Nat} {x y : Operand} {a b : List UInt8} (h : a.length + b.length ≤ 9223372036854775807) (w : World) : (do eqGuard .add t x y (bstr a) (bstr b); binOp .add t (bstr a) (bstr b) : Sem Value).run P w = .ok (bstr (a ++ b)) w := by
  have := run_string_add_sum (P := P) (w := w) (⟨a.toArray⟩ : ByteArray) ⟨b.toArray⟩ h
  simp only [Sem.run_bind]
  show (binOp .add t (bstr a) (bstr b)).run P w = _
  rw [binOp_string_add, this, str_append]
theorem run_seq {P : Program} {t : Nat} {x y : Operand} {a b : List UInt8} (w : World) : (do eqGuard .eql t x y (bstr a) (bstr b); binOp .eql t (bstr a) (bstr b) : Sem Value).run P w = .ok (.bool (decide (a = b))) w := by
  simp only [Sem.run_bind]
  show (binOp .eql t (bstr a) (bstr b)).run P w = _
  rw [binOp_string_eql, str_toList, str_toList]
  simp [go_sem]
  by_cases h : a = b <;> simp [h]
theorem run_sne {P : Program} {t : Nat} {x y : Operand} {a b : List UInt8} (w : World) : (do eqGuard .neq t x y (bstr a) (bstr b); binOp .neq t (bstr a) (bstr b) : Sem Value).run P w = .ok (.bool (decide (¬ a = b))) w := by
  simp only [Sem.run_bind]
  show (binOp .neq t (bstr a) (bstr b)).run P w = _
  rw [binOp_string_neq, str_toList, str_toList]
  simp [go_sem]
  by_cases h : a = b <;> simp [h]
theorem cat_pv {P : Program} {t : Nat} {x y : Operand} {a b : List UInt8} (h : a.length + b.length ≤ 9223372036854775807) : (bstr (a ++ b)).oneCell' = true ∧ wfV (bstr (a ++ b)) ∧ ∀ w, (do eqGuard .add t x y (bstr a) (bstr b); binOp .add t (bstr a) (bstr b) : Sem Value).run P w = .ok (bstr (a ++ b)) w := ⟨rfl, trivial, run_cat h⟩
theorem seq_pv {P : Program} {t : Nat} {x y : Operand} {a b : List UInt8} : (Value.bool (decide (a = b))).oneCell' = true ∧ wfV (.bool (decide (a = b))) ∧ ∀ w, (do eqGuard .eql t x y (bstr a) (bstr b); binOp .eql t (bstr a) (bstr b) : Sem Value).run P w = .ok (.bool (decide (a = b))) w := ⟨rfl, trivial, run_seq⟩
theorem sne_pv {P : Program} {t : Nat} {x y : Operand} {a b : List UInt8} : (Value.bool (decide (¬ a = b))).oneCell' = true ∧ wfV (.bool (decide (¬ a = b))) ∧ ∀ w, (do eqGuard .neq t x y (bstr a) (bstr b); binOp .neq t (bstr a) (bstr b) : Sem Value).run P w = .ok (.bool (decide (¬ a = b))) w := ⟨rfl, trivial, run_sne⟩
theorem po_sidx {P : Program} {o : Oper} {t : Nat} {x y : Operand} {l : List UInt8} {k : IntKind} {i : Int} (ho : o.op = .index t x y) (ht : P.underlying t = some .string) (h0 : 0 ≤ i) (hi : i.toNat < l.length) : PureOp P o [bstr l, .int k i] (.int .u8 (l[i.toNat].toNat : Int)) := by
  refine ⟨rfl, ?_, fun f hf w => ?_⟩
  · show inK .u8 _
    have := l[i.toNat].toNat_lt
    simp only [inK]; omega
  · rw [ho] at hf
    simp only [Op.operands, List.map_cons, List.map_nil, List.cons.injEq, and_true] at hf
    simp [execOp, ho, hf.1, hf.2, Instr.index, asIntOf, run_underlying ht, h0, str_get, List.getElem?_eq_getElem hi]
theorem po_ssl {P : Program} {o : Oper} {t : Nat} {x y z : Operand} {l : List UInt8} {k k' : IntKind} {i j : Int} (ho : o.op = .slice t x (some y) (some z) none) (ht : P.underlying t = some .string) (h0 : 0 ≤ i) (h1 : i ≤ j) (h2 : j ≤ l.length) : PureOp P o [bstr l, .int k i, .int k' j] (bstr ((l.take j.toNat).drop i.toNat)) := by
  refine ⟨rfl, trivial, fun f hf w => ?_⟩
  rw [ho] at hf
  simp [Op.operands] at hf
  have e1 : ((j.toNat : Nat) : Int) = j := by omega
  simp [execOp, ho, hf, Instr.sliceAt, Instr.slice, Instr.sliceBounds, Instr.sliceBound, asIntOf, run_underlying ht, str_size, h0, h1, h2, e1, str_extract, show 0 ≤ j by omega]
theorem po_ssl1 {P : Program} {o : Oper} {t : Nat} {x y : Operand} {l : List UInt8} {k : IntKind} {i : Int} (ho : o.op = .slice t x (some y) none none) (ht : P.underlying t = some .string) (h0 : 0 ≤ i) (h1 : i ≤ l.length) : PureOp P o [bstr l, .int k i] (bstr (l.drop i.toNat)) := by
  refine ⟨rfl, trivial, fun f hf w => ?_⟩
  rw [ho] at hf
  simp [Op.operands] at hf
  have e1 : l.drop i.toNat = (l.take l.length).drop i.toNat := by rw [List.take_length]
  rw [e1]
  simp [execOp, ho, hf, Instr.sliceAt, Instr.slice, Instr.sliceBounds, Instr.sliceBound, asIntOf, run_underlying ht, str_size, h0, h1, str_extract]
theorem po_slen {P : Program} {o : Oper} {t : Nat} {x : Operand} {l : List UInt8} {c : Call} (ho : o.op = .call c) (hc : c.callee = .builtin .len) (ha : c.args = #[x]) (hat : c.argTypes = #[t]) (ht : P.underlying t = some .string) (hl : l.length ≤ 9223372036854775807) : PureOp P o [bstr l] (.int .i64 (l.length : Int)) := by
  refine ⟨rfl, ⟨by omega, by omega⟩, fun f hf w => ?_⟩
  rw [ho] at hf
  simp [Op.operands, Call.operands, hc, ha] at hf
  simp [execOp, ho, resolve, hc, ha, hat, invoke, builtin, hf, Builtin.len_, run_underlying ht, str_size, goInt]
theorem po_sget {P : Program} {o : Oper} {t : Nat} {x y : Operand} {l : List UInt8} {k : IntKind} {i : Int} {b : UInt8} (ho : o.op = .index t x y) (ht : P.underlying t = some .string) (h0 : 0 ≤ i) (hi : l[i.toNat]? = some b) : PureOp P o [bstr l, .int k i] (.int .u8 (b.toNat : Int)) := by
  obtain ⟨h, e⟩ := List.getElem?_eq_some_iff.1 hi
  have := po_sidx (P := P) (k := k) ho ht h0 h
  rw [e] at this; exact this
theorem zsl {o : Oper} {x : Operand} {c : Call} {l : List UInt8} {K : Value → Prop} (k : K (.int .i64 (l.length : Int))) (h : l.length ≤ 9223372036854775807 := by first | omega | (simp only [List.length_append, List.length_cons, List.length_nil]; omega)) (ho : o.op = .call c := by rfl) (hc : c.callee = .builtin .len := by rfl) (ha : c.args = #[x] := by rfl) (hat : c.argTypes = #[9] := by rfl) : ∃ v, PureOp Tryd.prog o [bstr l] v ∧ K v := ⟨_, po_slen ho hc ha hat Tryd.underlying9 h, k⟩
theorem zsg {o : Oper} {x y : Operand} {l : List UInt8} {kk : IntKind} {i : Int} {b : UInt8} {K : Value → Prop} (k : K (.int .u8 (b.toNat : Int))) (hi : l[i.toNat]? = some b := by assumption) (h0 : 0 ≤ i := by omega) (ho : o.op = .index 9 x y := by rfl) : ∃ v, PureOp Tryd.prog o [bstr l, .int kk i] v ∧ K v := ⟨_, po_sget ho Tryd.underlying9 h0 hi, k⟩
theorem zss {o : Oper} {x y z : Operand} {l : List UInt8} {kk kk' : IntKind} {i j : Int} {K : Value → Prop} (k : K (bstr ((l.take j.toNat).drop i.toNat))) (h0 : 0 ≤ i := by omega) (h1 : i ≤ j := by omega) (h2 : j ≤ l.length := by omega) (ho : o.op = .slice 9 x (some y) (some z) none := by rfl) : ∃ v, PureOp Tryd.prog o [bstr l, .int kk i, .int kk' j] v ∧ K v := ⟨_, po_ssl ho Tryd.underlying9 h0 h1 h2, k⟩
theorem zs1 {o : Oper} {x y : Operand} {l : List UInt8} {kk : IntKind} {i : Int} {K : Value → Prop} (k : K (bstr (l.drop i.toNat))) (h0 : 0 ≤ i := by omega) (h1 : i ≤ l.length := by omega) (ho : o.op = .slice 9 x (some y) none none := by rfl) : ∃ v, PureOp Tryd.prog o [bstr l, .int kk i] v ∧ K v := ⟨_, po_ssl1 ho Tryd.underlying9 h0 h1, k⟩
theorem zse {t : Nat} {x y : Operand} {a b : List UInt8} {K : Value → Prop} (k : K (.bool (decide (a = b)))) : ∃ v, (v.oneCell' = true ∧ wfV v ∧ ∀ w, (do eqGuard .eql t x y (bstr a) (bstr b); binOp .eql t (bstr a) (bstr b) : Sem Value).run Tryd.prog w = .ok v w) ∧ K v := ⟨_, seq_pv, k⟩
theorem zsn {t : Nat} {x y : Operand} {a b : List UInt8} {K : Value → Prop} (k : K (.bool (decide (¬ a = b)))) : ∃ v, (v.oneCell' = true ∧ wfV v ∧ ∀ w, (do eqGuard .neq t x y (bstr a) (bstr b); binOp .neq t (bstr a) (bstr b) : Sem Value).run Tryd.prog w = .ok v w) ∧ K v := ⟨_, sne_pv, k⟩
theorem zsc {t : Nat} {x y : Operand} {a b : List UInt8} {K : Value → Prop} (k : K (bstr (a ++ b))) (h : a.length + b.length ≤ 9223372036854775807 := by first | omega | (simp only [List.length_append, List.length_cons, List.length_nil]; omega)) : ∃ v, (v.oneCell' = true ∧ wfV v ∧ ∀ w, (do eqGuard .add t x y (bstr a) (bstr b); binOp .add t (bstr a) (bstr b) : Sem Value).run Tryd.prog w = .ok v w) ∧ K v := ⟨_, cat_pv h, k⟩
theorem zpa {c : Bool} {p q A B : Prop} [h : BC c p q] (k : A) (e : p := by first | assumption | with_reducible rfl) : br c A B := bc_t e k
theorem zqa {c : Bool} {p q A B : Prop} [h : BC c p q] (k : B) (e : q := by assumption) : br c A B := bc_f e k
end Go.Proofs.YtgdpogdgpfjnoaaDoor

namespace Go.Proofs.YtgdpogdgpfjnoaaDoor
open Go Go.RowKit Sx
namespace Sx
def shAskC : Sh := .st (.fc 1 (.int .u8) (.fc 3 shPoint (.fc 1 shInt (.fc 2 shRatio .f0))))
end Sx
theorem fits_askC {ds : List D} (h : Fits shAskC ds) : ∃ a : Ak, ds = a.c := by
  obtain ⟨_, _, rfl, ⟨k, rfl⟩, _, _, rfl, h2, _, _, rfl, ⟨i, rfl⟩, _, _, rfl, h3, rfl⟩ := h
  obtain ⟨p, rfl⟩ := fits_point h2
  obtain ⟨n, d, rfl⟩ := fits_ratio h3
  exact ⟨⟨k, p, i, n, d⟩, rfl⟩
theorem fit_askC {c : DC} (h : FitC shAskC c) : ∃ a : Ak, c = a.dc := by
  obtain ⟨ds, rfl, h⟩ := h
  obtain ⟨a, rfl⟩ := fits_askC h
  exact ⟨a, rfl⟩
theorem fit_str {c : DC} (h : FitC .str c) : ∃ s : List UInt8, s.length ≤ 9223372036854775807 ∧ c = .one (str s) := by
  obtain ⟨d, rfl, b, hb, e⟩ := h
  simp only [List.cons.injEq, and_true] at e
  subst e
  refine ⟨b.data.toList, ?_, rfl⟩
  have := Lib.size_eq b
  simp only [maxLen] at hb
  omega
def cells0 : DataW Unit → List Value
  | .lit (.int k n) => [.int k n]
  | _ => []
def cells1 : DataW Unit → List Value
  | .agg l => l.flatMap cells0
  | x => cells0 x
def cells2 : DataW Unit → List Value
  | .agg l => l.flatMap cells1
  | x => cells1 x
def layB (l : List (String × DataW Unit)) (i : Nat) (cs : Array Value) : Array Value := match l[i]? with
  | some x => (cells2 x.2).toArray
  | none => cs
def layO (i : Nat) : Obj → Obj
  | .cells c t f => .cells (layB Rows.configTextsRow.laid i c) t f
  | o => o
noncomputable def laidHeap (os : Os) : Array Obj := (((((World.holding Tryd.prog os ⟨#[], #[], []⟩).heap.modify 4 (layO 0)).modify 5 (layO 1)).modify 0 (layO 2)).modify 3 (layO 3)).modify 2 (layO 4)
noncomputable def laidWorld (os : Os) : World := { World.holding Tryd.prog os ⟨#[], #[], []⟩ with heap := laidHeap os }
theorem laid_met (os : Os) (args : Array Value) : laidMet Tryd.prog Rows.configTextsRow.laid ((laidWorld os).forCall (fun _ _ => 0) ⟨#[], args, []⟩).memory :=
  laidMet_of_run3 8 (by kernel_rfl) (by kernel_rfl) (by kernel_rfl)
theorem gd_of {W : World} (hL : laidMetH Tryd.prog Rows.configTextsRow.laid W) (hsh : W.ShapedOpen Tryd.prog) : Gd W := by
  refine ⟨?_, ?_, ?_⟩
  · have hsome : (((begin Tryd.prog (fun _ _ => 0) default).world.heap[5]?).bind Obj.row?).isSome = true := by kernel_rfl
    obtain ⟨⟨zero, t⟩, h0⟩ := Option.isSome_iff_exists.1 hsome
    obtain ⟨cs, hh, _, _⟩ := hsh.1 5 zero t (of_decide_eq_true (by kernel_rfl)) h0
    have : 5 < W.heap.size := (Array.getElem?_eq_some_iff.1 hh).1
    have e : gl = 6 := by unfold gl; kernel_rfl
    omega
  · exact Tryd.laysM145.s1_3 W hsh
  · have h1 := hL.filter fun x => x.1 == "internal/strconv.uint64pow10"
    have e : (Rows.configTextsRow.laid.filter fun x => x.1 == "internal/strconv.uint64pow10") = [("internal/strconv.uint64pow10", Rows.laid_internal_strconv_uint64pow10)] := by kernel_rfl
    rw [e] at h1
    have h2 : laidMet Tryd.prog [("internal/strconv.uint64pow10", Lib.tabData .u64 Lib.pow10Tab)] W := h1
    exact Lib.tabIs_of_head (g := 0) (t := 129) (e := 100) (n := 20) (by kernel_rfl) (by kernel_rfl) (by kernel_rfl) (by kernel_rfl) (by kernel_rfl) (by kernel_rfl) h2
end Go.Proofs.YtgdpogdgpfjnoaaDoor

namespace Go.Proofs.YtgdpogdgpfjnoaaDoor
open Go Go.RowKit
theorem bld_size : (Tryd.prog.info? 69).map (·.size) = some 2 := by kernel_rfl
theorem bld_lies : liesAt Tryd.prog Tryd.prog.depth 69 (2 / Tryd.prog.cellsOf 69) 0 69 1 = true := by kernel_rfl
set_option maxHeartbeats 1000000 in
set_option maxRecDepth 100000 in
theorem cc_used (b : Nat) (w : World) (h0 : w.cell? ⟨b, 0, none⟩ = some (.pointer (some ⟨b, 0, none⟩))) :
    Calls Tryd.prog 59 #[.pointer (some ⟨b, 0, none⟩)] w fun e w' => e = .returned (.tuple #[]) ∧ w' = w := by
  obtain ⟨j, hj, _⟩ := Option.map_eq_some_iff.1 bld_size
  go_enter Tryd.func59, Tryd.ntmps59
  go_wp2
  rw [Lib.run_neq_ptr_same w _ Tryd.underlying67 hj]
  go_wp2
  go_end0
  exact ⟨rfl, rfl⟩
set_option maxHeartbeats 1000000 in
set_option maxRecDepth 100000 in
theorem cc_fresh (b : Nat) (w : World) (h0 : w.cell? ⟨b, 0, none⟩ = some (.pointer none)) (hsh : w.shape? b = some (69, 2)) (hfz : w.frozen? ⟨b, 0, none⟩ = false) :
    Calls Tryd.prog 59 #[.pointer (some ⟨b, 0, none⟩)] w fun e w' => e = .returned (.tuple #[]) ∧ w' = w.setCell ⟨b, 0, none⟩ (.pointer (some ⟨b, 0, none⟩)) := by
  obtain ⟨j, hj, hjs⟩ := Option.map_eq_some_iff.1 bld_size
  go_enter Tryd.func59, Tryd.ntmps59
  go_wp2
  rw [Lib.run_to_unsafe w ⟨b, 0, none⟩ Tryd.underlying67 Tryd.underlying114 hj (by rw [hjs]; decide) hsh (Nat.zero_lt_succ 1)]
  simp only [Result.andThen]
  rw [Oper.upon_value]
  go_wp2
  rw [run_callFunc_extern Tryd.func75 (by kernel_rfl) (by kernel_rfl) (by kernel_rfl) (e := Extern.AbiNoEscape.same) (by kernel_rfl)]
  rw [Lib.run_noEscape]
  simp only [Result.andThen]
  rw [Oper.upon_value]
  go_wp2
  rw [Lib.run_from_unsafe w ⟨b, 0, none⟩ Tryd.underlying114 Tryd.underlying67 hj hsh bld_lies]
  simp only [Result.andThen]
  rw [Oper.upon_value]
  go_wp2
  go_end0
  exact ⟨rfl, rfl⟩
theorem cc_any (B b : Nat) (bs : List Value) (w : World) (h : Lib.IsBuilder 69 5 B b bs w) :
    Calls Tryd.prog 59 #[.pointer (some ⟨b, 0, none⟩)] w fun e w' => e = .returned (.tuple #[]) ∧ (Lib.BuilderAt 69 5 B b (.pointer (some ⟨b, 0, none⟩)) bs w' ∧ Below B w w') := by
  rcases h with h | h
  · refine (cc_fresh b w h.cell0 h.shape h.frozen0).mono ?_
    rintro e w' ⟨rfl, rfl⟩
    exact ⟨rfl, h.used _, (Below.refl B w).setCell (p := ⟨b, 0, none⟩) h.1 _⟩
  · refine (cc_used b w h.cell0).mono ?_
    rintro e w' ⟨rfl, rfl⟩
    exact ⟨rfl, h, Below.refl B _⟩
theorem byte_info : (Tryd.prog.info? 5).map (fun i => (i.zero, i.size, i.bytes)) = some (some (.int .u8 0), 1, 1) := by kernel_rfl
set_option maxHeartbeats 2000000 in
set_option maxRecDepth 100000 in
theorem write_any (B b : Nat) (bs : List Value) (s : ByteArray) (w : World) (h : Lib.IsBuilder 69 5 B b bs w) (hlen : bs.length + s.size ≤ 140737488355328) (hBw : B ≤ w.heap.size) :
    Calls Tryd.prog 32 #[.pointer (some ⟨b, 0, none⟩), .string s] w fun e w' => e = .returned (.tuple #[.int .i64 s.size, .nilIface]) ∧ (Lib.BuilderAt 69 5 B b (.pointer (some ⟨b, 0, none⟩)) (bs ++ Lib.strCells s) w' ∧ Below B w w') := by
  obtain ⟨i0, hi, hz0, hz1, hz2⟩ := info_parts byte_info
  go_enter Tryd.func32, Tryd.ntmps32
  go_wp2_with (go_at_call 59; refine (cc_any B b bs _ h).mono ?_)
  rintro e w1 ⟨rfl, h1, hb1⟩
  obtain ⟨hB, v, hbk, hown, hne⟩ := h1
  have c0 : w1.cell? ⟨b, 0, none⟩ = some (.pointer (some ⟨b, 0, none⟩)) := by rw [Lib.cell_of_heap hbk]; rfl
  have c1 : w1.cell? ⟨b, 1, none⟩ = some v := by rw [Lib.cell_of_heap hbk]; rfl
  go_wp2_with (at_builtin; refine Lib.wpList_append_own_string _ rfl _ _ 49 9 rfl B 5 i0 Tryd.underlying49 Tryd.underlying9 hi hz0 hz1 hz2 _ _ _ rfl hown s rfl ?c3 ?c4 ?c5 ?_)
  case c3 => unfold maxLen; omega
  case c4 => omega
  case c5 => have := hb1.size; omega
  intro v' w2 hown' hgrow _
  have hlt : b < w1.heap.size := by
    rcases Nat.lt_or_ge b w1.heap.size with h' | h'
    · exact h'
    · simp [Array.getElem?_eq_none h'] at hbk
  have hb2 : w2.heap[b]? = some (.cells #[.pointer (some ⟨b, 0, none⟩), v] 69 (0, 0)) := by
    rw [hgrow.block b hlt (fun e => hne e.symm)]
    exact hbk
  have d0 : w2.cell? ⟨b, 0, none⟩ = some (.pointer (some ⟨b, 0, none⟩)) := by rw [Lib.cell_of_heap hb2]; rfl
  have d1 : w2.cell? ⟨b, 1, none⟩ = some v := by rw [Lib.cell_of_heap hb2]; rfl
  have f1 : w2.frozen? ⟨b, 1, none⟩ = false := Lib.frozen_of_heap hb2 1
  obtain ⟨ao, n', cap, rfl⟩ : ∃ ao n' cap, v' = .slice ao n' cap := by
    rcases hown'.2 with ⟨hv, _⟩ | ⟨g, cap, cur, hv, _⟩
    · exact ⟨_, _, _, hv⟩
    · exact ⟨_, _, _, hv⟩
  go_wp2
  go_ret2
  refine ⟨rfl, ?_, ?_⟩
  · exact Lib.BuilderAt.put (T := 69) (e := 5) hB hb2 (bs' := bs ++ Lib.strCells s) (by simpa [Lib.strCells_length] using hown') (by decide)
  · exact (hb1.grown hgrow (by have := hb1.size; omega) (fun k hk => (hown.lt k hk).1)).setCell (p := ⟨b, 1, none⟩) hB _
theorem write_str (B b : Nat) (l s : List UInt8) (w : World) (h : Lib.IsBuilder 69 5 B b (Lib.byteCells l) w) (hlen : l.length + s.length ≤ 1000000) (hBw : B ≤ w.heap.size) :
    Calls Tryd.prog 32 #[.pointer (some ⟨b, 0, none⟩), .string ⟨s.toArray⟩] w fun e w' => e = .returned (.tuple #[.int .i64 (s.length : Int), .nilIface]) ∧ (Lib.IsBuilder 69 5 B b (Lib.byteCells (l ++ s)) w' ∧ Below B w w') := by
  refine (write_any B b _ ⟨s.toArray⟩ w h (by rw [Lib.byteCells_length]; show l.length + s.length ≤ _; omega) hBw).mono ?_
  rintro e w' ⟨rfl, h1, h2⟩
  refine ⟨rfl, .inr ?_, h2⟩
  have : Lib.byteCells (l ++ s) = Lib.byteCells l ++ Lib.strCells ⟨s.toArray⟩ := by rw [Lib.byteCells_append]; rfl
  rw [this]; exact h1
theorem rowAt_below {w w' : World} {B : Nat} {e : TypeId} {k n : Nat} {v : Value} {xs : List Value} (h : w.ownsRow B e k v n xs) (hb : Below w.heap.size w w') : w'.ownsRow B e k v n xs := by
  obtain ⟨h1, h | ⟨g, cap, cur, hv, hB, hg, h2⟩⟩ := h
  · exact ⟨h1, .inl h⟩
  · exact ⟨h1, .inr ⟨g, cap, cur, hv, hB, by rw [hb.block g (Array.getElem?_eq_some_iff.1 hg).1]; exact hg, h2⟩⟩
theorem bld_below {w w' : World} {T e : TypeId} {B b : Nat} {bs : List Value} (h : Lib.IsBuilder T e B b bs w) (hb : Below w.heap.size w w') : Lib.IsBuilder T e B b bs w' := by
  rcases h with h | h
  · obtain ⟨hB, v, hv, ho, hn⟩ := h
    exact .inl ⟨hB, v, by rw [hb.block b (Array.getElem?_eq_some_iff.1 hv).1]; exact hv, rowAt_below ho hb, hn⟩
  · obtain ⟨hB, v, hv, ho, hn⟩ := h
    exact .inr ⟨hB, v, by rw [hb.block b (Array.getElem?_eq_some_iff.1 hv).1]; exact hv, rowAt_below ho hb, hn⟩
theorem bld_new (w : World) (T e : TypeId) : Lib.IsBuilder T e w.heap.size w.heap.size [] (w.alloc (.cells #[.pointer none, .slice none 0 0] T)) :=
  .inl ⟨Nat.le_refl _, .slice none 0 0, World.alloc_heap_new w _, ⟨rfl, .inl ⟨rfl, rfl⟩⟩, by intro h; cases h⟩
end Go.Proofs.YtgdpogdgpfjnoaaDoor

namespace Go.Proofs.YtgdpogdgpfjnoaaDoor
open Go.RowKit Go.Sort Sx Go.Lib
abbrev Str := List UInt8
theorem dig_of {k : Nat} (h : k < 10) : digitVal (UInt8.ofNat (48 + k)) = some k := by
  have e : (UInt8.ofNat (48 + k)).toNat = 48 + k := by
    rw [UInt8.toNat_ofNat']; omega
  unfold digitVal
  rw [e, if_pos ⟨by omega, by omega⟩]
  congr 1; omega
def rdP : Nat → Str → Option Nat
  | n, [] => some n
  | n, b :: l => match digitVal b with
    | some d => if 10 * n + d ≤ 9223372036854775807 then rdP (10 * n + d) l else none
    | none => none
theorem rdP_app (n : Nat) (l r : Str) : rdP n (l ++ r) = (rdP n l).bind fun m => rdP m r := by
  induction l generalizing n with
  | nil => rfl
  | cons b l ih =>
    rw [List.cons_append, rdP, rdP]
    cases digitVal b with
    | none => rfl
    | some d =>
      dsimp only
      split
      · exact ih _
      · rfl
theorem rdP_dec : ∀ (u : Nat), u ≤ 9223372036854775807 → rdP 0 (decDigits u) = some u := by
  intro u
  induction u using Nat.strongRecOn with
  | _ u ih =>
    intro hu
    by_cases h : u < 10
    · rw [decDigits, dif_pos h, rdP, dig_of h]
      dsimp only
      rw [if_pos (by omega), rdP]
      congr 1; omega
    · rw [decDigits, dif_neg h, rdP_app, ih (u / 10) (by omega) (by omega)]
      show rdP (u / 10) _ = _
      rw [rdP, dig_of (Nat.mod_lt _ (by decide))]
      dsimp only
      rw [if_pos (by omega), rdP]
      congr 1; omega
theorem dec_mem : ∀ (u : Nat), ∀ b ∈ decDigits u, 48 ≤ b.toNat ∧ b.toNat ≤ 57 := by
  intro u
  induction u using Nat.strongRecOn with
  | _ u ih =>
    have key : ∀ k : Nat, k < 10 → 48 ≤ (UInt8.ofNat (48 + k)).toNat ∧ (UInt8.ofNat (48 + k)).toNat ≤ 57 := fun k h => by
      rw [UInt8.toNat_ofNat']; omega
    intro b hb
    by_cases h : u < 10
    · rw [decDigits, dif_pos h, List.mem_singleton] at hb
      subst hb; exact key u h
    · rw [decDigits, dif_neg h] at hb
      rcases List.mem_append.1 hb with hb | hb
      · exact ih (u / 10) (by omega) b hb
      · rw [List.mem_singleton] at hb
        subst hb; exact key _ (Nat.mod_lt _ (by decide))
theorem dec_head {u : Nat} {r : Str} : decDigits u ≠ 45 :: r := fun h => by
  have := dec_mem u 45 (by rw [h]; exact List.mem_cons_self ..)
  exact absurd this.1 (by decide)
abbrev fitI (n : Int) : Prop := -9223372036854775807 ≤ n ∧ n ≤ 9223372036854775807
def wholeV (s : Str) : Int × Bool := match s with
  | 45 :: r => (match rdP 0 r with | some n => (-(n : Int), decide (itoa (-(n : Int)) = s)) | none => (0, false))
  | _ => (match rdP 0 s with | some n => ((n : Int), decide (itoa (n : Int) = s)) | none => (0, false))
theorem itoa_neg {n : Nat} (h : 0 < n) : itoa (-(n : Int)) = 45 :: decDigits n := by
  unfold itoa
  rw [if_pos (by omega)]
  congr 2; omega
theorem itoa_pos (n : Nat) : itoa (n : Int) = decDigits n := by
  unfold itoa
  rw [if_neg (by omega)]
  congr 1
theorem rdP_le : ∀ {l : Str} {n m : Nat}, n ≤ 9223372036854775807 → rdP n l = some m → m ≤ 9223372036854775807
  | [], n, m, h, e => by rw [rdP] at e; injection e with e; omega
  | b :: l, n, m, h, e => by
    rw [rdP] at e
    split at e
    · split at e
      · rename_i hle; exact rdP_le hle e
      · cases e
    · cases e
theorem whole_ok {s : Str} (h : (wholeV s).2 = true) : fitI (wholeV s).1 ∧ itoa (wholeV s).1 = s := by
  unfold wholeV at h ⊢
  split at h
  · rename_i r
    cases e : rdP 0 r with
    | none => rw [e] at h; cases h
    | some n =>
      rw [e] at h
      have := rdP_le (by omega) e
      exact ⟨⟨by dsimp only; omega, by dsimp only; omega⟩, of_decide_eq_true h⟩
  · cases e : rdP 0 s with
    | none => rw [e] at h; cases h
    | some n =>
      rw [e] at h
      have := rdP_le (by omega) e
      exact ⟨⟨by dsimp only; omega, by dsimp only; omega⟩, of_decide_eq_true h⟩
theorem whole_itoa {n : Int} (h : fitI n) : wholeV (itoa n) = (n, true) := by
  obtain ⟨h1, h2⟩ := h
  rcases Int.lt_or_le n 0 with h0 | h0
  · obtain ⟨k, hk, rfl⟩ : ∃ k : Nat, 0 < k ∧ n = -(k : Int) := ⟨n.natAbs, by omega, by omega⟩
    rw [itoa_neg hk]
    show (match rdP 0 (decDigits k) with | some n => (-(n : Int), decide (itoa (-(n : Int)) = 45 :: decDigits k)) | none => (0, false)) = _
    rw [rdP_dec k (by omega)]
    dsimp only
    rw [itoa_neg hk, decide_eq_true rfl]
  · obtain ⟨k, rfl⟩ : ∃ k : Nat, n = (k : Int) := ⟨n.toNat, by omega⟩
    rw [itoa_pos]
    unfold wholeV
    split
    · rename_i r e; exact absurd e dec_head
    · rw [rdP_dec k (by omega)]
      dsimp only
      rw [itoa_pos, decide_eq_true rfl]
end Go.Proofs.YtgdpogdgpfjnoaaDoor
