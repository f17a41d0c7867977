import Derived.Test.YtnjgfhgpicmklaaGQAK
import Derived.Test.YtnjgfhgpicmklaaGQAJ
import Derived.Shelf.SlSortCmp.WholeK
import Derived.Shelf.SlSortCmp.NoneTotal
import Derived.Ground.SlsfProg
import Derived.Test.YtnjgfhgpicmklaaProg
set_option linter.all false
namespace Go.Proofs.Ytnjgfhgpicmklaa
open Go.RowKit Go.Sort Sx
abbrev pt (i a b : Int) : DC := .agg [i64 i, i64 a, i64 b]
abbrev rat (n d : Int) : DC := .agg [i64 n, i64 d]
def far (n : Int) : Bool := decide (n < -1048576 ∨ n > 1048576)
theorem far_t {n : Int} {A B : Prop} (h1 : n < -1048576 ∨ 1048576 < n → A) (h2 : -1048576 ≤ n ∧ n ≤ 1048576 → B) : br (far n) A B := brd h1 fun h => h2 (by omega)
theorem far_y {n : Int} {A B : Prop} (e : n < -1048576 ∨ 1048576 < n) (h : A) : br (far n) A B := brd_t e h
theorem far_n {n : Int} {A B : Prop} (e : -1048576 ≤ n ∧ n ≤ 1048576) (h : B) : br (far n) A B := brd_f (by omega) h
def cpt (i a b : Int) : Int := if 0 ≤ i ∧ i ≤ 65535 ∧ -1048576 ≤ a ∧ a ≤ 1048576 ∧ -1048576 ≤ b ∧ b ≤ 1048576 then 0 else 8
theorem cpt_08 (i a b : Int) : cpt i a b = 0 ∨ cpt i a b = 8 := by unfold cpt; split <;> simp
theorem cpt_ok {i a b : Int} (h : cpt i a b = 0) : 0 ≤ i ∧ i ≤ 65535 ∧ -1048576 ≤ a ∧ a ≤ 1048576 ∧ -1048576 ≤ b ∧ b ≤ 1048576 := by
  unfold cpt at h; split at h
  · assumption
  · cases h
theorem kfar_fnd (n : Int) : FnD Try.prog 87 [.one (i64 n)] (.c (.one (bol (far n)))) := by
  refine fn_okD (by kernel_rfl) ty_okD rfl Try.func87 rfl (fun _ _ => Try.call87 _ _) rfl ?_
  intro hw
  repeat' ((conv => whnf); first | (with_reducible first | refine br_t ?_ | refine br_f ?_ | refine zd ?_ | refine za ?_ | refine zg ?_) | refine zp ?_ | refine zq ?_ | (with_reducible first | refine bc (fun h => ?_) (fun h => ?_) | refine zt ?_ | refine zf ?_ | refine br_i (fun h => ?_) (fun h => ?_)) | refine zg ?_ | refine zi ?_ | refine zb ?_)
  all_goals conv => whnf
  all_goals
    refine r_bool ?_
    unfold far
    first
    | exact (decide_eq_true (by omega)).symm
    | (have e : (n > 1048576) = (n < -1048576 ∨ n > 1048576) := propext ⟨.inr, fun h => by omega⟩
       exact decide_eq_decide.2 (by omega))
theorem kCheck_fnd (i a b : Int) : FnD Try.prog 69 [pt i a b] (ret1 (cpt i a b)) := by
  refine fn_okD (by kernel_rfl) ty_okD rfl Try.func69 rfl (fun _ _ => Try.call69 _ _) rfl ?_
  intro hw
  repeat' ((conv => whnf); first | (with_reducible first | refine br_t ?_ | refine br_f ?_ | refine zd ?_ | refine za ?_ | refine zg ?_ | refine xi (kfar_fnd _) ?_) | first | ((with_reducible refine far_y ?_ ?_); omega) | ((with_reducible refine far_n ?_ ?_); omega) | (with_reducible refine far_t (fun h => ?_) (fun h => ?_)) | refine zp ?_ | refine zq ?_ | (with_reducible first | refine bc (fun h => ?_) (fun h => ?_) | refine zt ?_ | refine zf ?_ | refine br_i (fun h => ?_) (fun h => ?_)) | refine zg ?_ | refine zi ?_ | refine zb ?_)
  all_goals conv => whnf
  all_goals
    refine r_int ?_
    unfold cpt
    first
    | rw [if_pos (by omega)]
    | rw [if_neg (by omega)]
theorem kCheck_fn (i a b : Int) : FnOK Try.prog 69 [pt i a b] (ret1 (cpt i a b)) := (kCheck_fnd i a b).ok
theorem kkCheck_fn (i a b : Int) : FnOK Try.prog 97 [pt i a b] (ret1 (cpt i a b)) := by
  refine fn_ok (by kernel_rfl) ty_ok Try.func97 rfl (fun _ _ => Try.call97 _ _) rfl ?_
  intro hw
  repeat' ((conv => whnf); first | (with_reducible first | refine br_t ?_ | refine br_f ?_ | refine za ?_ | refine zg ?_) | refine zp ?_ | refine zq ?_ | (with_reducible first | refine bc (fun h => ?_) (fun h => ?_) | refine zt ?_ | refine zf ?_ | refine br_i (fun h => ?_) (fun h => ?_)) | refine zg ?_ | refine zi ?_ | refine zb ?_)
  all_goals conv => whnf
  all_goals
    refine r_int ?_
    unfold cpt
    first
    | rw [if_pos (by omega)]
    | rw [if_neg (by omega)]
end Go.Proofs.Ytnjgfhgpicmklaa

namespace Go.Proofs.Ytnjgfhgpicmklaa
open Go.RowKit Go.Sort Sx
end Go.Proofs.Ytnjgfhgpicmklaa

namespace Go.Proofs.Ytnjgfhgpicmklaa
open Go.RowKit Go.Sort Sx
theorem nanint_fnd (n : Int) : FnD Try.prog 118 [.one (i64 n)] (.c (.one (bol false))) := by
  refine fn_okD (by kernel_rfl) ty_okD rfl Try.func118 rfl (fun _ _ => Try.call118 _ _) rfl ?_
  intro hw
  repeat' ((conv => whnf); first | (with_reducible first | refine br_t ?_ | refine br_f ?_ | refine zd ?_ | refine za ?_ | refine zg ?_) | refine zp ?_ | refine zq ?_ | (with_reducible first | refine bc (fun h => ?_) (fun h => ?_) | refine zt ?_ | refine zf ?_ | refine br_i (fun h => ?_) (fun h => ?_)) | refine zg ?_ | refine zi ?_ | refine zb ?_)
  all_goals conv => whnf
  all_goals first | rfl | exact r_bool (by simp)
theorem cmpint_fnd (a b : Int) : FnD Try.prog 103 [.one (i64 a), .one (i64 b)] (ret1 (cmpN a b)) := by
  refine fn_okD (by kernel_rfl) ty_okD rfl Try.func103 rfl (fun _ _ => Try.call103 _ _) rfl ?_
  intro hw
  repeat' ((conv => whnf); first | (with_reducible first | refine br_t ?_ | refine br_f ?_ | refine zd ?_ | refine za ?_ | refine zg ?_ | refine xi (nanint_fnd _) ?_) | refine zp ?_ | refine zq ?_ | (with_reducible first | refine bc (fun h => ?_) (fun h => ?_) | refine zt ?_ | refine zf ?_ | refine br_i (fun h => ?_) (fun h => ?_)) | refine zg ?_ | refine zi ?_ | refine zb ?_)
  all_goals conv => whnf
  all_goals
    refine r_int ?_
    unfold cmpN
    (repeat' split) <;> omega
theorem cmpint_fn (a b : Int) : FnOK Try.prog 103 [.one (i64 a), .one (i64 b)] (ret1 (cmpN a b)) := (cmpint_fnd a b).ok
def orN (a b : Int) : Int := if a = 0 then b else a
def two02 (i a b j c d n m : Int) : Int := if cpt i a b = 0 ∧ cpt j c d = 0 ∧ chk n m = 0 then (if i = j then 2 else 0) else 8
end Go.Proofs.Ytnjgfhgpicmklaa

namespace Go.Proofs.Ytnjgfhgpicmklaa
open Go.RowKit
end Go.Proofs.Ytnjgfhgpicmklaa

namespace Go.Proofs.Ytnjgfhgpicmklaa
open Go.RowKit Go.Sort Sx
def meetV (i a b j c d : Int) : Int × Int × Int := if two02 i a b j c d 0 1 = 0 then (if b = d then (0, 0, 6) else makeV (a - c) (d - b)) else (0, 0, two02 i a b j c d 0 1)
end Go.Proofs.Ytnjgfhgpicmklaa

namespace Go.Proofs.Ytnjgfhgpicmklaa
open Go.RowKit Go.Sort Sx
end Go.Proofs.Ytnjgfhgpicmklaa

namespace Go.Proofs.Ytnjgfhgpicmklaa
open Go.RowKit Go.Sort Sx
end Go.Proofs.Ytnjgfhgpicmklaa

namespace Go.Proofs.Ytnjgfhgpicmklaa
open Go.RowKit Go.Sort Sx
structure Pt where
  id : Int
  a : Int
  b : Int
  deriving DecidableEq, Inhabited
def Pt.c (p : Pt) : List D := [i64 p.id, i64 p.a, i64 p.b]
abbrev Pt.dc (p : Pt) : DC := pt p.id p.a p.b
abbrev pts (l : List Pt) : D := .list 3 (l.map Pt.c)
abbrev fld (l : List Pt) : DC := .agg [pts l]
def Pt.chk (p : Pt) : Int := cpt p.id p.a p.b
def incr : List Pt → Bool
  | p :: q :: l => decide (p.id < q.id) && incr (q :: l)
  | _ => true
def fchk (l : List Pt) : Int := if 64 < l.length then 4 else if l.all (fun p => p.chk == 0) then (if incr l then 0 else 32) else 8
theorem Pt.chk_08 (p : Pt) : p.chk = 0 ∨ p.chk = 8 := cpt_08 p.id p.a p.b
theorem pts_get {l : List Pt} {i : Nat} (h : i < l.length) : (l.map Pt.c)[((i : Nat) : Int).toNat]? = some [i64 l[i].id, i64 l[i].a, i64 l[i].b] := by
  rw [Int.toNat_natCast, List.getElem?_map, List.getElem?_eq_getElem h]; rfl
theorem pts_get' {l : List Pt} {i : Nat} {j : Int} (h : i < l.length) (e : j.toNat = i) : (l.map Pt.c)[j.toNat]? = some [i64 l[i].id, i64 l[i].a, i64 l[i].b] := by
  rw [e, List.getElem?_map, List.getElem?_eq_getElem h]; rfl
theorem wd_pts {l : List Pt} (h : WD (pts l)) : l.length ≤ 9223372036854775807 ∧ ∀ p ∈ l, (-9223372036854775808 ≤ p.id ∧ p.id ≤ 9223372036854775807) ∧ (-9223372036854775808 ≤ p.a ∧ p.a ≤ 9223372036854775807) ∧ (-9223372036854775808 ≤ p.b ∧ p.b ≤ 9223372036854775807) := by
  obtain ⟨h1, _, h3⟩ := WD_list.1 h
  refine ⟨by simpa using h1, fun p hp => ?_⟩
  have h4 := h3 p.c (List.mem_map_of_mem hp)
  exact ⟨wd_i64.1 (h4 _ (by simp [Pt.c])), wd_i64.1 (h4 _ (by simp [Pt.c])), wd_i64.1 (h4 _ (by simp [Pt.c]))⟩
theorem all_take_succ {l : List Pt} {f : Pt → Bool} {i : Nat} (h : i < l.length) : (l.take (i + 1)).all f = ((l.take i).all f && f l[i]) := by
  rw [List.take_succ_eq_append_getElem h, List.all_append]; simp
theorem incr_iff : ∀ {l : List Pt}, incr l = true ↔ ∀ i (h : i + 1 < l.length), l[i].id < l[i + 1].id
  | [] => by simp [incr]
  | [p] => by simp [incr]
  | p :: q :: l => by
    rw [incr, Bool.and_eq_true, decide_eq_true_eq, incr_iff]
    constructor
    · rintro ⟨h1, h2⟩ i h
      cases i with
      | zero => exact h1
      | succ i => exact h2 i (by simpa using h)
    · exact fun h => ⟨h 0 (by simp), fun i hi => h (i + 1) (by simpa using hi)⟩
theorem fCheck_fn (l : List Pt) : FnOK Try.prog 65 [fld l] (ret1 (fchk l)) := by
  refine fn_ok (by kernel_rfl) ty_ok Try.func65 rfl (fun _ _ => Try.call65 _ _) rfl ?_
  intro hw
  simp only [WDCs, WDC, WDs] at hw
  obtain ⟨w1, w2⟩ := wd_pts hw.1.1
  repeat' ((conv => whnf); first | (with_reducible first | refine br_t ?_ | refine br_f ?_ | refine za ?_ | refine zg ?_) | rw [List.length_map] | refine zp ?_ | refine zq ?_ | (with_reducible first | refine bc (fun h => ?_) (fun h => ?_) | refine zt ?_ | refine zf ?_ | refine br_i (fun h => ?_) (fun h => ?_)) | refine zg ?_ | refine zi ?_ | refine zb ?_)
  · conv => whnf
    unfold fchk
    rw [if_pos (by omega)]
  unfold fchk
  rw [if_neg (by omega)]
  refine loop_J (by kernel_rfl) ty_ok (σ := Nat) (fun i => [(15, sV (.int .i64 i))]) (fun _ => []) (fun i => i ≤ l.length ∧ (l.take i).all (fun p => p.chk == 0) = true) (fun i => l.length - i) 0 ⟨by omega, by simp⟩ ?_ ?_
  · (conv => whnf); exact zent
  rintro i ⟨hi, hI⟩
  rcases Nat.lt_or_ge i l.length with hlt | hge
  · have hel := pts_get hlt
    have HC := kCheck_fn l[i].id l[i].a l[i].b
    rcases Pt.chk_08 l[i] with hc | hc
    · unfold Pt.chk at hc
      rw [hc] at HC
      repeat' ((conv => whnf); first | (with_reducible first | refine br_t ?_ | refine br_f ?_ | refine za ?_ | refine zg ?_ | refine xi (HC) ?_) | rw [List.length_map] | refine zp ?_ | refine zq ?_ | (with_reducible first | refine bc (fun h => ?_) (fun h => ?_) | refine zt ?_ | refine zf ?_ | refine br_i (fun h => ?_) (fun h => ?_)) | refine zg ?_ | refine zi ?_ | refine zb ?_)
      all_goals conv => whnf
      refine ⟨i + 1, ⟨by omega, ?_⟩, ?_, by omega⟩
      · rw [all_take_succ hlt, hI]; simp [Pt.chk, hc]
      · (conv => whnf); exact zent
    · have hn : l.all (fun p => p.chk == 0) = false := by
        rw [Bool.eq_false_iff]
        intro h
        have := List.all_eq_true.1 h l[i] (List.getElem_mem hlt)
        rw [hc] at this; simp at this
      unfold Pt.chk at hc
      rw [hc] at HC
      repeat' ((conv => whnf); first | (with_reducible first | refine br_t ?_ | refine br_f ?_ | refine za ?_ | refine zg ?_ | refine xi (HC) ?_) | rw [List.length_map] | refine zp ?_ | refine zq ?_ | (with_reducible first | refine bc (fun h => ?_) (fun h => ?_) | refine zt ?_ | refine zf ?_ | refine br_i (fun h => ?_) (fun h => ?_)) | refine zg ?_ | refine zi ?_ | refine zb ?_)
      all_goals conv => whnf
      rw [hn]; rfl
  · have hall : l.all (fun p => p.chk == 0) = true := by rw [List.take_of_length_le hge] at hI; exact hI
    rw [hall, if_pos rfl]
    repeat' ((conv => whnf); first | (with_reducible first | refine br_t ?_ | refine br_f ?_ | refine za ?_ | refine zg ?_) | rw [List.length_map] | refine zp ?_ | refine zq ?_ | (with_reducible first | refine bc (fun h => ?_) (fun h => ?_) | refine zt ?_ | refine zf ?_ | refine br_i (fun h => ?_) (fun h => ?_)) | refine zg ?_ | refine zi ?_ | refine zb ?_)
    refine loop_J (by kernel_rfl) ty_ok (σ := Nat) (fun i => [(28, sV (.int .i64 i))]) (fun _ => []) (fun i => i ≤ l.length ∧ ∀ j (h : j + 1 < l.length), j + 1 < i → l[j].id < l[j + 1].id) (fun i => l.length - i) 0 ⟨by omega, fun j _ h => by omega⟩ ?_ ?_
    · (conv => whnf); exact zent
    rintro j ⟨hj, hJ⟩
    rcases Nat.lt_or_ge j l.length with hjlt | hjge
    · have hel := pts_get hjlt
      rcases Nat.eq_zero_or_pos j with h0 | h0
      · subst h0
        repeat' ((conv => whnf); first | (with_reducible first | refine br_t ?_ | refine br_f ?_ | refine za ?_ | refine zg ?_) | rw [List.length_map] | refine zp ?_ | refine zq ?_ | (with_reducible first | refine bc (fun h => ?_) (fun h => ?_) | refine zt ?_ | refine zf ?_ | refine br_i (fun h => ?_) (fun h => ?_)) | refine zg ?_ | refine zi ?_ | refine zb ?_)
        all_goals conv => whnf
        refine ⟨1, ⟨by omega, fun k _ h => by omega⟩, ?_, by omega⟩
        (conv => whnf); exact zent
      · have hel2 := pts_get' (l := l) (i := j - 1) (j := IntKind.i64.wrap ((j : Int) - 1)) (by omega) (by rw [IntWalk.i64_in _ (by omega)]; omega)
        have hw1 : IntKind.i64.wrap ((j : Int) - 1) = ((j - 1 : Nat) : Int) := by rw [IntWalk.i64_in _ (by omega)]; omega
        repeat' ((conv => whnf); first | (with_reducible first | refine br_t ?_ | refine br_f ?_ | refine za ?_ | refine zg ?_) | rw [List.length_map] | refine And.intro (by rw [hw1]; omega) ?_ | refine zp ?_ | refine zq ?_ | (with_reducible first | refine bc (fun h => ?_) (fun h => ?_) | refine zt ?_ | refine zf ?_ | refine br_i (fun h => ?_) (fun h => ?_)) | refine zg ?_ | refine zi ?_ | refine zb ?_)
        all_goals conv => whnf
        · rename_i h
          have hf : incr l = false := by
            rw [Bool.eq_false_iff, ne_eq, incr_iff]
            intro hh
            have := hh (j - 1) (by omega)
            rw [show l[j - 1 + 1]'(by omega) = l[j] from getElem_congr rfl (by omega) _] at this
            omega
          rw [hf]; rfl
        · rename_i h
          refine ⟨j + 1, ⟨by omega, fun k hk hk2 => ?_⟩, ?_, by omega⟩
          · rcases Nat.lt_or_ge (k + 1) j with h1 | h1
            · exact hJ k hk h1
            · have e : k = j - 1 := by omega
              subst e
              rw [show l[j - 1 + 1]'hk = l[j] from getElem_congr rfl (by omega) _]
              omega
          · (conv => whnf); exact zent
    · have ht : incr l = true := incr_iff.2 fun k hk => hJ k hk (by omega)
      repeat' ((conv => whnf); first | (with_reducible first | refine br_t ?_ | refine br_f ?_ | refine za ?_ | refine zg ?_) | rw [List.length_map] | refine zp ?_ | refine zq ?_ | (with_reducible first | refine bc (fun h => ?_) (fun h => ?_) | refine zt ?_ | refine zf ?_ | refine br_i (fun h => ?_) (fun h => ?_)) | refine zg ?_ | refine zi ?_ | refine zb ?_)
      all_goals conv => whnf
      all_goals
        rw [ht]; rfl
theorem rfCheck_fn (l : List Pt) : FnOK Try.prog 77 [fld l] (ret1 (fchk l)) := by
  refine fn_ok (by kernel_rfl) ty_ok Try.func77 rfl (fun _ _ => Try.call77 _ _) rfl ?_
  intro hw
  simp only [WDCs, WDC, WDs] at hw
  obtain ⟨w1, w2⟩ := wd_pts hw.1.1
  repeat' ((conv => whnf); first | (with_reducible first | refine br_t ?_ | refine br_f ?_ | refine za ?_ | refine zg ?_) | rw [List.length_map] | refine zp ?_ | refine zq ?_ | (with_reducible first | refine bc (fun h => ?_) (fun h => ?_) | refine zt ?_ | refine zf ?_ | refine br_i (fun h => ?_) (fun h => ?_)) | refine zg ?_ | refine zi ?_ | refine zb ?_)
  · conv => whnf
    unfold fchk
    rw [if_pos (by omega)]
  unfold fchk
  rw [if_neg (by omega)]
  refine loop_J (by kernel_rfl) ty_ok (σ := Nat) (fun i => [(3, sV (.int .i64 i))]) (fun _ => []) (fun i => i ≤ l.length ∧ (l.take i).all (fun p => p.chk == 0) = true) (fun i => l.length - i) 0 ⟨by omega, by simp⟩ ?_ ?_
  · (conv => whnf); exact zent
  rintro i ⟨hi, hI⟩
  rcases Nat.lt_or_ge i l.length with hlt | hge
  · have hel := pts_get hlt
    have HC := kkCheck_fn l[i].id l[i].a l[i].b
    rcases Pt.chk_08 l[i] with hc | hc
    · unfold Pt.chk at hc
      rw [hc] at HC
      repeat' ((conv => whnf); first | (with_reducible first | refine br_t ?_ | refine br_f ?_ | refine za ?_ | refine zg ?_ | refine xi (HC) ?_) | rw [List.length_map] | refine zp ?_ | refine zq ?_ | (with_reducible first | refine bc (fun h => ?_) (fun h => ?_) | refine zt ?_ | refine zf ?_ | refine br_i (fun h => ?_) (fun h => ?_)) | refine zg ?_ | refine zi ?_ | refine zb ?_)
      all_goals conv => whnf
      refine ⟨i + 1, ⟨by omega, ?_⟩, ?_, by omega⟩
      · rw [all_take_succ hlt, hI]; simp [Pt.chk, hc]
      · (conv => whnf); exact zent
    · have hn : l.all (fun p => p.chk == 0) = false := by
        rw [Bool.eq_false_iff]
        intro h
        have := List.all_eq_true.1 h l[i] (List.getElem_mem hlt)
        rw [hc] at this; simp at this
      unfold Pt.chk at hc
      rw [hc] at HC
      repeat' ((conv => whnf); first | (with_reducible first | refine br_t ?_ | refine br_f ?_ | refine za ?_ | refine zg ?_ | refine xi (HC) ?_) | rw [List.length_map] | refine zp ?_ | refine zq ?_ | (with_reducible first | refine bc (fun h => ?_) (fun h => ?_) | refine zt ?_ | refine zf ?_ | refine br_i (fun h => ?_) (fun h => ?_)) | refine zg ?_ | refine zi ?_ | refine zb ?_)
      all_goals conv => whnf
      rw [hn]; rfl
  · have hall : l.all (fun p => p.chk == 0) = true := by rw [List.take_of_length_le hge] at hI; exact hI
    rw [hall, if_pos rfl]
    repeat' ((conv => whnf); first | (with_reducible first | refine br_t ?_ | refine br_f ?_ | refine za ?_ | refine zg ?_) | rw [List.length_map] | refine zp ?_ | refine zq ?_ | (with_reducible first | refine bc (fun h => ?_) (fun h => ?_) | refine zt ?_ | refine zf ?_ | refine br_i (fun h => ?_) (fun h => ?_)) | refine zg ?_ | refine zi ?_ | refine zb ?_)
    refine loop_J (by kernel_rfl) ty_ok (σ := Nat) (fun i => [(4, sV (.int .i64 ((i + 1 : Nat) : Int)))]) (fun _ => []) (fun i => i ≤ l.length ∧ ∀ j (h : j + 1 < l.length), j < i → l[j].id < l[j + 1].id) (fun i => l.length - i) 0 ⟨by omega, fun j _ h => by omega⟩ ?_ ?_
    · (conv => whnf); exact zent
    rintro j ⟨hj, hJ⟩
    rcases Nat.lt_or_ge (j + 1) l.length with hjlt | hjge
    · have hel := pts_get hjlt
      have hel2 := pts_get' (l := l) (i := j) (j := IntKind.i64.wrap (((j + 1 : Nat) : Int) - 1)) (by omega) (by rw [IntWalk.i64_in _ (by omega)]; omega)
      have hw1 : IntKind.i64.wrap (((j + 1 : Nat) : Int) - 1) = (j : Int) := by rw [IntWalk.i64_in _ (by omega)]; omega
      repeat' ((conv => whnf); first | (with_reducible first | refine br_t ?_ | refine br_f ?_ | refine za ?_ | refine zg ?_) | rw [List.length_map] | refine And.intro (by rw [hw1]; omega) ?_ | refine zp ?_ | refine zq ?_ | (with_reducible first | refine bc (fun h => ?_) (fun h => ?_) | refine zt ?_ | refine zf ?_ | refine br_i (fun h => ?_) (fun h => ?_)) | refine zg ?_ | refine zi ?_ | refine zb ?_)
      all_goals conv => whnf
      · rename_i h
        have hf : incr l = false := by
          rw [Bool.eq_false_iff, ne_eq, incr_iff]
          intro hh
          have := hh j (by omega)
          omega
        rw [hf]; rfl
      · rename_i h
        refine ⟨j + 1, ⟨by omega, fun k hk hk2 => ?_⟩, ?_, by omega⟩
        · rcases Nat.lt_or_ge k j with h1 | h1
          · exact hJ k hk h1
          · have e : k = j := by omega
            subst e
            omega
        · (conv => whnf); exact zent
    · have ht : incr l = true := incr_iff.2 fun k hk => hJ k hk (by omega)
      repeat' ((conv => whnf); first | (with_reducible first | refine br_t ?_ | refine br_f ?_ | refine za ?_ | refine zg ?_) | rw [List.length_map] | refine zp ?_ | refine zq ?_ | (with_reducible first | refine bc (fun h => ?_) (fun h => ?_) | refine zt ?_ | refine zf ?_ | refine br_i (fun h => ?_) (fun h => ?_)) | refine zg ?_ | refine zi ?_ | refine zb ?_)
      all_goals conv => whnf
      all_goals
        rw [ht]; rfl
end Go.Proofs.Ytnjgfhgpicmklaa

namespace Go.Proofs.Ytnjgfhgpicmklaa
open Go Go.RowKit Sx
theorem fits_point {ds : List D} (h : Fits shPoint ds) : ∃ p : Pt, ds = p.c := by
  obtain ⟨_, _, rfl, ⟨n, rfl⟩, _, _, rfl, ⟨m, rfl⟩, _, _, rfl, ⟨k, rfl⟩, rfl⟩ := h
  exact ⟨⟨n, m, k⟩, rfl⟩
theorem fits_pts {ds : List D} (h : Fits (.sl 3 shPoint) ds) : ∃ l : List Pt, ds = [pts l] := by
  obtain ⟨l, rfl, h⟩ := h
  obtain ⟨l', rfl⟩ := exists_map (f := Pt.c) fun x hx => fits_point (h x hx)
  exact ⟨l', rfl⟩
theorem fits_field {ds : List D} (h : Fits shField ds) : ∃ l : List Pt, ds = [pts l] := by
  obtain ⟨_, _, rfl, h, rfl⟩ := h
  obtain ⟨l, rfl⟩ := fits_pts h
  exact ⟨l, rfl⟩
end Go.Proofs.Ytnjgfhgpicmklaa

namespace Go.Proofs.Ytnjgfhgpicmklaa
open Go.RowKit Go.Sort Sx
abbrev ownL (k : Nat) (l : List (List D)) : OwnR := ⟨.c (.one (.list k l)), 0, 0, k, l⟩
theorem clonePt_own (l : List (List D)) (hl : l.length ≤ 1000000) : FnOwn Try.prog 90 [.one (.list 3 l)] (ownL 3 l) := by
  cases l with
  | nil =>
    refine own_list ?_ ?_
    · refine fn_own (by kernel_rfl) (ty_okK [7] [] [] []) Try.func90 rfl (fun _ _ => Try.call90 _ _) rfl ?_
      intro hw
      repeat' ((conv => whnf); first | (with_reducible first | refine br_t ?_ | refine br_f ?_ | refine za ?_ | refine zg ?_ | refine zo ?_) | refine zp ?_ | refine zq ?_ | (with_reducible first | refine bc (fun h => ?_) (fun h => ?_) | refine zt ?_ | refine zf ?_ | refine br_i (fun h => ?_) (fun h => ?_)) | refine zg ?_ | refine zi ?_ | refine zb ?_ | refine zl ?_)
      all_goals conv => whnf
      exact .inr ⟨100, _, _, rfl, rfl, rfl, rfl, rfl⟩
    · refine fn_own (by kernel_rfl) (ty_okK [7] [] [] []) Try.func90 rfl (fun _ _ => Try.call90 _ _) rfl ?_
      intro hw
      repeat' ((conv => whnf); first | (with_reducible first | refine br_t ?_ | refine br_f ?_ | refine za ?_ | refine zg ?_ | refine zo ?_) | refine zp ?_ | refine zq ?_ | (with_reducible first | refine bc (fun h => ?_) (fun h => ?_) | refine zt ?_ | refine zf ?_ | refine br_i (fun h => ?_) (fun h => ?_)) | refine zg ?_ | refine zi ?_ | refine zb ?_ | refine zl ?_)
      all_goals conv => whnf
      exact .inl ⟨5, 1, _, rfl, rfl, rfl⟩
  | cons x xs =>
    refine fn_own (by kernel_rfl) (ty_okK [7] [] [] []) Try.func90 rfl (fun _ _ => Try.call90 _ _) rfl ?_
    intro hw
    simp only [List.length_cons] at hl
    repeat' ((conv => whnf); first | (with_reducible first | refine br_t ?_ | refine br_f ?_ | refine za ?_ | refine zg ?_ | refine zo ?_) | refine zp ?_ | refine zq ?_ | (with_reducible first | refine bc (fun h => ?_) (fun h => ?_) | refine zt ?_ | refine zf ?_ | refine br_i (fun h => ?_) (fun h => ?_)) | refine zg ?_ | refine zi ?_ | refine zb ?_ | refine zl ?_)
    all_goals conv => whnf
    exact .inl ⟨5, 1, _, rfl, rfl, rfl⟩
def pos : List Pt → Int → Nat
  | [], _ => 0
  | p :: l, id => if p.id < id then pos l id + 1 else 0
def has (l : List Pt) (id : Int) : Bool := l.any fun p => p.id == id
theorem incr_lt {l : List Pt} (h : incr l = true) : ∀ (j i : Nat) (hj : j < l.length) (hij : i < j), l[i].id < l[j].id := by
  intro j
  induction j with
  | zero => intro i _ h; omega
  | succ j ih =>
    intro i hj hij
    have h1 := incr_iff.1 h j hj
    rcases Nat.lt_or_ge i j with h2 | h2
    · have := ih i (by omega) h2; omega
    · have : i = j := by omega
      subst this; exact h1
theorem incr_tail {p : Pt} {l : List Pt} (h : incr (p :: l) = true) : incr l = true := by
  cases l with
  | nil => rfl
  | cons q l => rw [incr, Bool.and_eq_true] at h; exact h.2
theorem pos_le : ∀ (l : List Pt) (id : Int), pos l id ≤ l.length
  | [], _ => Nat.le_refl _
  | p :: l, id => by rw [pos]; split <;> simp [pos_le l id]
theorem pos_eq : ∀ {l : List Pt} {id : Int} {i : Nat}, i ≤ l.length → (∀ k (h : k < l.length), k < i → l[k].id < id) → (∀ k (h : k < l.length), i ≤ k → id ≤ l[k].id) → pos l id = i
  | [], id, i, hi, _, _ => by simp at hi; simp [pos, hi]
  | p :: l, id, 0, hi, h1, h2 => by
    have := h2 0 (by simp) (Nat.le_refl _)
    simp at this
    rw [pos, if_neg (by omega)]
  | p :: l, id, i + 1, hi, h1, h2 => by
    have := h1 0 (by simp) (by omega)
    simp at this
    rw [pos, if_pos this, pos_eq (by simpa using hi) (fun k h hk => h1 (k + 1) (by simpa using h) (by omega)) (fun k h hk => h2 (k + 1) (by simpa using h) (by omega))]
theorem pos_spec : ∀ {l : List Pt} {id : Int}, incr l = true → (∀ k (h : k < l.length), k < pos l id → l[k].id < id) ∧ ∀ k (h : k < l.length), pos l id ≤ k → id ≤ l[k].id
  | [], id, _ => ⟨fun k h => by simp at h, fun k h => by simp at h⟩
  | p :: l, id, hs => by
    rw [pos]
    split
    · rename_i hp
      obtain ⟨h1, h2⟩ := pos_spec (id := id) (incr_tail hs)
      refine ⟨fun k h hk => ?_, fun k h hk => ?_⟩
      · cases k with
        | zero => exact hp
        | succ k => simpa using h1 k (by simpa using h) (by omega)
      · cases k with
        | zero => omega
        | succ k => simpa using h2 k (by simpa using h) (by omega)
    · rename_i hp
      refine ⟨fun k h hk => by omega, fun k h hk => ?_⟩
      cases k with
      | zero => simp; omega
      | succ k =>
        have := incr_lt hs (k + 1) 0 h (by omega)
        simp at this ⊢; omega
theorem has_pos {l : List Pt} {id : Int} (hs : incr l = true) : has l id = true ↔ ∃ h : pos l id < l.length, l[pos l id].id = id := by
  unfold has
  rw [List.any_eq_true]
  obtain ⟨h1, h2⟩ := pos_spec (id := id) hs
  constructor
  · rintro ⟨p, hp, he⟩
    obtain ⟨k, hk, rfl⟩ := List.getElem_of_mem hp
    have he : l[k].id = id := by simpa using he
    have hle : pos l id ≤ k := by
      rcases Nat.lt_or_ge k (pos l id) with h | h
      · have := h1 k hk h; omega
      · exact h
    have hlt : pos l id < l.length := by omega
    refine ⟨hlt, ?_⟩
    have := h2 (pos l id) hlt (Nat.le_refl _)
    rcases Nat.eq_or_lt_of_le hle with h | h
    · rw [getElem_congr rfl h]; exact he
    · have := incr_lt hs k (pos l id) hk h; omega
  · rintro ⟨h, he⟩
    exact ⟨_, List.getElem_mem h, by simpa using he⟩
theorem mid_eq (i j : Nat) (h : i + j ≤ 9223372036854775807) : IntKind.i64.wrap ((IntKind.u64.wrap (IntKind.i64.wrap ((i : Int) + (j : Int)))).fdiv (2 ^ (min (Int.toNat 1) (IntKind.bits .u64)))) = (((i + j) / 2 : Nat) : Int) := by
  have e1 : (2 : Int) ^ (min (Int.toNat 1) (IntKind.bits .u64)) = 2 := rfl
  have e2 : IntKind.u64.wrap (((i + j : Nat) : Int)) = ((i + j : Nat) : Int) := by rw [IntKind.wrap_u64]; omega
  have e3 : IntKind.i64.wrap ((i : Int) + (j : Int)) = ((i + j : Nat) : Int) := by rw [IntWalk.i64_in _ (by omega)]; omega
  rw [e3, e2, e1, Int.fdiv_eq_ediv_of_nonneg _ (by omega)]
  have e4 : ((i + j : Nat) : Int) / 2 = (((i + j) / 2 : Nat) : Int) := by omega
  rw [e4, IntWalk.i64_in _ (by omega)]
theorem ffind1_fn (p : Pt) (id : Int) : FnOK Try.prog 102 [p.dc, .one (i64 id)] (ret1 (cmpN p.id id)) := by
  refine fn_ok (by kernel_rfl) ty_ok Try.func102 rfl (fun _ _ => Try.call102 _ _) rfl ?_
  intro hw
  repeat' ((conv => whnf); first | (with_reducible first | refine br_t ?_ | refine br_f ?_ | refine za ?_ | refine zg ?_ | refine xi (cmpint_fn _ _) ?_) | refine zp ?_ | refine zq ?_ | (with_reducible first | refine bc (fun h => ?_) (fun h => ?_) | refine zt ?_ | refine zf ?_ | refine br_i (fun h => ?_) (fun h => ?_)) | refine zg ?_ | refine zi ?_ | refine zb ?_)
  all_goals conv => whnf
  all_goals rfl
theorem bsPt_fn (l : List Pt) (id : Int) (hs : incr l = true) (hl : l.length ≤ 1000000) : FnOK Try.prog 101 [.one (pts l), .one (i64 id), .one (.clo 102 [])] (.tup [.one (i64 (pos l id : Nat)), .one (bol (has l id))]) := by
  refine fn_ok (by kernel_rfl) ty_ok Try.func101 rfl (fun _ _ => Try.call101 _ _) rfl ?_
  intro hw
  repeat' ((conv => whnf); first | (with_reducible first | refine br_t ?_ | refine br_f ?_ | refine za ?_ | refine zg ?_) | rw [List.length_map] | refine zp ?_ | refine zq ?_ | (with_reducible first | refine bc (fun h => ?_) (fun h => ?_) | refine zt ?_ | refine zf ?_ | refine br_i (fun h => ?_) (fun h => ?_)) | refine zg ?_ | refine zi ?_ | refine zb ?_)
  refine loop_J (by kernel_rfl) ty_ok (σ := Nat × Nat) (fun s => [(9, sV (.int .i64 s.1)), (10, sV (.int .i64 s.2))]) (fun _ => [])
    (fun s => s.1 ≤ s.2 ∧ s.2 ≤ l.length ∧ (∀ k (h : k < l.length), k < s.1 → l[k].id < id) ∧ ∀ k (h : k < l.length), s.2 ≤ k → id ≤ l[k].id) (fun s => s.2 - s.1) (0, l.length) ⟨by omega, by omega, fun k h hk => absurd hk (Nat.not_lt_zero _), fun k h hk => absurd h (by show ¬ k < l.length; exact Nat.not_lt.2 hk)⟩ ?_ ?_
  · (conv => whnf); exact zent
  rintro ⟨i, j⟩ ⟨h1, h2, h3, h4⟩
  simp only at h1 h2 h3 h4
  rcases Nat.lt_or_ge i j with hlt | hge
  · have hm : (i + j) / 2 < l.length := by omega
    have hmid := mid_eq i j (by omega)
    have hel := pts_get hm
    have HC := ffind1_fn l[(i + j) / 2] id
    rcases (show l[(i + j) / 2].id < id ∨ id ≤ l[(i + j) / 2].id by omega) with hc | hc
    · have e : cmpN l[(i + j) / 2].id id = -1 := by unfold cmpN; rw [if_pos hc]
      rw [e] at HC
      repeat' ((conv => whnf); first | (with_reducible first | refine br_t ?_ | refine br_f ?_ | refine za ?_ | refine zg ?_) | rw [List.length_map] | rw [hmid] | refine zp ?_ | refine zq ?_ | (with_reducible first | refine bc (fun h => ?_) (fun h => ?_) | refine zt ?_ | refine zf ?_ | refine br_i (fun h => ?_) (fun h => ?_)) | refine zg ?_ | refine zi ?_ | refine zb ?_)
      all_goals conv => whnf
      refine ⟨((i + j) / 2 + 1, j), ⟨by show _ ≤ _; omega, h2, fun k h hk => ?_, h4⟩, ?_, by show _ - _ < _ - _; omega⟩
      · rcases Nat.lt_or_ge k ((i + j) / 2) with h5 | h5
        · have := incr_lt hs _ _ hm h5; omega
        · have : k = (i + j) / 2 := by show k = _; simp only at hk; omega
          subst this; exact hc
      · (conv => whnf); exact zent
    · have e : 0 ≤ cmpN l[(i + j) / 2].id id := by unfold cmpN; split <;> (try split) <;> omega
      generalize cmpN l[(i + j) / 2].id id = c at HC e
      repeat' ((conv => whnf); first | (with_reducible first | refine br_t ?_ | refine br_f ?_ | refine za ?_ | refine zg ?_) | rw [List.length_map] | rw [hmid] | refine zp ?_ | refine zq ?_ | (with_reducible first | refine bc (fun h => ?_) (fun h => ?_) | refine zt ?_ | refine zf ?_ | refine br_i (fun h => ?_) (fun h => ?_)) | refine zg ?_ | refine zi ?_ | refine zb ?_)
      all_goals conv => whnf
      refine ⟨(i, (i + j) / 2), ⟨by show _ ≤ _; omega, by show _ ≤ _; omega, h3, fun k h hk => ?_⟩, ?_, by show _ - _ < _ - _; omega⟩
      · rcases Nat.lt_or_ge ((i + j) / 2) k with h5 | h5
        · have := incr_lt hs k _ h h5; omega
        · have : k = (i + j) / 2 := by simp only at hk; omega
          subst this; exact hc
      · (conv => whnf); exact zent
  · have e : i = j := by omega
    subst e
    have hp := pos_eq (id := id) h2 h3 h4
    rw [hp]
    have hh := has_pos (id := id) hs
    rcases Nat.lt_or_ge i l.length with hlt | hge2
    · have hel := pts_get hlt
      have HC := ffind1_fn l[i] id
      have e2 : has l id = decide (cmpN l[i].id id = 0) := by
        rw [Bool.eq_iff_iff, hh, decide_eq_true_eq]
        have e3 : cmpN l[i].id id = 0 ↔ l[i].id = id := by
          unfold cmpN
          split
          · exact ⟨fun h => by omega, fun h => by omega⟩
          · split
            · exact ⟨fun h => by omega, fun h => by omega⟩
            · exact ⟨fun h => by omega, fun h => rfl⟩
        rw [e3]
        constructor
        · rintro ⟨h, e⟩; exact (congrArg Pt.id (getElem_congr rfl hp.symm _)).trans e
        · intro e; exact ⟨by omega, (congrArg Pt.id (getElem_congr rfl hp _)).trans e⟩
      rw [e2]
      generalize cmpN l[i].id id = c at HC
      by_cases hc : c = 0
      all_goals
        repeat' ((conv => whnf); first | (with_reducible first | refine br_t ?_ | refine br_f ?_ | refine za ?_ | refine zg ?_) | rw [List.length_map] | refine zp ?_ | refine zq ?_ | (with_reducible first | refine bc (fun h => ?_) (fun h => ?_) | refine zt ?_ | refine zf ?_ | refine br_i (fun h => ?_) (fun h => ?_)) | refine zg ?_ | refine zi ?_ | refine zb ?_)
        all_goals conv => whnf
        all_goals simp [hc]
    · have e2 : has l id = false := by
        rw [Bool.eq_false_iff, ne_eq, hh]
        rintro ⟨h, _⟩; omega
      rw [e2]
      repeat' ((conv => whnf); first | (with_reducible first | refine br_t ?_ | refine br_f ?_ | refine za ?_ | refine zg ?_) | rw [List.length_map] | refine zp ?_ | refine zq ?_ | (with_reducible first | refine bc (fun h => ?_) (fun h => ?_) | refine zt ?_ | refine zf ?_ | refine br_i (fun h => ?_) (fun h => ?_)) | refine zg ?_ | refine zi ?_ | refine zb ?_)
      all_goals conv => whnf
      all_goals rfl
end Go.Proofs.Ytnjgfhgpicmklaa

namespace Go.Proofs.Ytnjgfhgpicmklaa
open Go.RowKit Go.Sort Sx
abbrev retIB (i : Int) (b : Bool) : DV := .tup [.one (i64 i), .one (bol b)]
theorem fchk_ok {l : List Pt} (h : fchk l = 0) : l.length ≤ 64 ∧ (∀ p ∈ l, p.chk = 0) ∧ incr l = true := by
  unfold fchk at h
  split at h
  · omega
  · split at h
    · rename_i h1 h2
      split at h
      · rename_i h3
        exact ⟨by omega, fun p hp => by simpa using List.all_eq_true.1 h2 p hp, h3⟩
      · omega
    · omega
theorem fchk_cases (l : List Pt) : fchk l = 0 ∨ fchk l = 4 ∨ fchk l = 8 ∨ fchk l = 32 := by
  unfold fchk; split <;> (try split) <;> (try split) <;> simp
theorem ffind_fn (l : List Pt) (id : Int) (hs : incr l = true) (hl : l.length ≤ 1000000) : FnOK Try.prog 88 [fld l, .one (i64 id)] (retIB (pos l id : Nat) (has l id)) := by
  refine fn_ok (by kernel_rfl) ty_ok Try.func88 rfl (fun _ _ => Try.call88 _ _) rfl ?_
  intro hw
  have HC := bsPt_fn l id hs hl
  exact zw
def placeV (l : List Pt) (id : Int) : Int × Int := if fchk l = 0 then (if has l id then ((pos l id : Nat), 0) else (0, 6)) else (0, fchk l)
theorem fplace_fn (l : List Pt) (id : Int) : FnOK Try.prog 91 [fld l, .one (i64 id)] (ret2 (placeV l id)) := by
  refine fn_ok (by kernel_rfl) ty_ok Try.func91 rfl (fun _ _ => Try.call91 _ _) rfl ?_
  intro hw
  have H1 := fCheck_fn l
  unfold placeV
  by_cases h0 : fchk l = 0
  · obtain ⟨k1, k2, k3⟩ := fchk_ok h0
    have H2 := ffind_fn l id k3 (by omega)
    rw [h0] at H1
    rw [if_pos h0]
    cases hh : has l id <;> rw [hh] at H2
    all_goals
      exact zw
  · rw [if_neg h0]
    exact zw
def at1 : List Pt → Int → Int → Int
  | [], _, _ => -1
  | p :: l, id, i => if p.id = id then i else at1 l id (i + 1)
theorem at1_drop {l : List Pt} {id : Int} : ∀ {n i : Nat}, n = l.length - i → i ≤ l.length → (∀ k (h : k < l.length), k < i → l[k].id ≠ id) → at1 l id 0 = at1 (l.drop i) id i := by
  intro n i
  induction i generalizing n with
  | zero => intro _ _ _; rfl
  | succ i ih =>
    intro hn hi h
    have hlt : i < l.length := by omega
    rw [ih (n := n + 1) (by omega) (by omega) (fun k hk hki => h k hk (by omega)), List.drop_eq_getElem_cons hlt, at1, if_neg (h i hlt (by omega))]
    rfl
theorem rfAt_fn (l : List Pt) (id : Int) : FnOK Try.prog 31 [fld l, .one (i64 id)] (ret1 (at1 l id 0)) := by
  refine fn_ok (by kernel_rfl) ty_ok Try.func31 rfl (fun _ _ => Try.call31 _ _) rfl ?_
  intro hw
  simp only [WDCs, WDC, WDs] at hw
  obtain ⟨w1, w2⟩ := wd_pts hw.1.1
  repeat' ((conv => whnf); first | (with_reducible first | refine br_t ?_ | refine br_f ?_ | refine za ?_ | refine zg ?_) | refine zp ?_ | refine zq ?_ | (with_reducible first | refine bc (fun h => ?_) (fun h => ?_) | refine zt ?_ | refine zf ?_ | refine br_i (fun h => ?_) (fun h => ?_)) | refine zg ?_ | refine zi ?_ | refine zb ?_)
  refine loop_J (by kernel_rfl) ty_ok (σ := Nat) (fun i => [(5, sV (.int .i64 i))]) (fun _ => []) (fun i => i ≤ l.length ∧ ∀ k (h : k < l.length), k < i → l[k].id ≠ id) (fun i => l.length - i) 0 ⟨by omega, fun k _ h => absurd h (Nat.not_lt_zero _)⟩ ?_ ?_
  · (conv => whnf); exact zent
  rintro i ⟨hi, hI⟩
  rcases Nat.lt_or_ge i l.length with hlt | hge
  · have hel := pts_get hlt
    by_cases hc : l[i].id = id
    · have e : at1 l id 0 = i := by rw [at1_drop rfl hi hI, List.drop_eq_getElem_cons hlt, at1, if_pos hc]
      rw [e]
      repeat' ((conv => whnf); first | (with_reducible first | refine br_t ?_ | refine br_f ?_ | refine za ?_ | refine zg ?_) | rw [List.length_map] | refine zp ?_ | refine zq ?_ | (with_reducible first | refine bc (fun h => ?_) (fun h => ?_) | refine zt ?_ | refine zf ?_ | refine br_i (fun h => ?_) (fun h => ?_)) | refine zg ?_ | refine zi ?_ | refine zb ?_)
      all_goals conv => whnf
      all_goals rfl
    · repeat' ((conv => whnf); first | (with_reducible first | refine br_t ?_ | refine br_f ?_ | refine za ?_ | refine zg ?_) | rw [List.length_map] | refine zp ?_ | refine zq ?_ | (with_reducible first | refine bc (fun h => ?_) (fun h => ?_) | refine zt ?_ | refine zf ?_ | refine br_i (fun h => ?_) (fun h => ?_)) | refine zg ?_ | refine zi ?_ | refine zb ?_)
      all_goals conv => whnf
      refine ⟨i + 1, ⟨by omega, fun k hk hki => ?_⟩, ?_, by omega⟩
      · rcases Nat.lt_or_ge k i with h1 | h1
        · exact hI k hk h1
        · have : k = i := by omega
          subst this; exact hc
      · (conv => whnf); exact zent
  · have e : at1 l id 0 = -1 := by rw [at1_drop rfl hi hI, List.drop_eq_nil_of_le hge, at1]
    rw [e]
    repeat' ((conv => whnf); first | (with_reducible first | refine br_t ?_ | refine br_f ?_ | refine za ?_ | refine zg ?_) | rw [List.length_map] | refine zp ?_ | refine zq ?_ | (with_reducible first | refine bc (fun h => ?_) (fun h => ?_) | refine zt ?_ | refine zf ?_ | refine br_i (fun h => ?_) (fun h => ?_)) | refine zg ?_ | refine zi ?_ | refine zb ?_)
    all_goals conv => whnf
    all_goals rfl
def great (l : List Pt) : Bool := decide (16 < l.length ∧ l.length < 64 ∨ 70 < l.length)
theorem rfGreat_fn (l : List Pt) : FnOK Try.prog 32 [fld l] (.c (.one (bol (great l)))) := by
  refine fn_ok (by kernel_rfl) ty_ok Try.func32 rfl (fun _ _ => Try.call32 _ _) rfl ?_
  intro hw
  simp only [WDCs, WDC, WDs] at hw
  obtain ⟨w1, w2⟩ := wd_pts hw.1.1
  unfold great
  repeat' ((conv => whnf); first | (with_reducible first | refine br_t ?_ | refine br_f ?_ | refine za ?_ | refine zg ?_) | rw [List.length_map] | refine zp ?_ | refine zq ?_ | (with_reducible first | refine bc (fun h => ?_) (fun h => ?_) | refine zt ?_ | refine zf ?_ | refine br_i (fun h => ?_) (fun h => ?_)) | refine zg ?_ | refine zi ?_ | refine zb ?_)
  all_goals conv => whnf
  all_goals
    refine r_bool ?_
    first
    | rfl
    | (simp only [decide_eq_decide, Bool.true_eq, Bool.false_eq, decide_eq_true_eq, decide_eq_false_iff_not]; omega)
    | (rw [eq_comm]; simp only [decide_eq_decide, decide_eq_true_eq, decide_eq_false_iff_not]; omega)
end Go.Proofs.Ytnjgfhgpicmklaa

namespace Go.Proofs.Ytnjgfhgpicmklaa
open Go.RowKit Go.Sort Sx
theorem Pt.eq_iff {p q : Pt} : p = q ↔ p.id = q.id ∧ p.a = q.a ∧ p.b = q.b := by
  cases p; cases q; simp
theorem take_all_eq {α : Type} {a b : List α} {i : Nat} (h : a.take i = b.take i) (hl : a.length = b.length) (hi : a.length ≤ i) : a = b := by
  rw [List.take_of_length_le hi, List.take_of_length_le (by omega)] at h; exact h
theorem take_succ_eq {α : Type} {a b : List α} {i : Nat} (h : a.take i = b.take i) (h1 : i < a.length) (h2 : i < b.length) (e : a[i] = b[i]) : a.take (i + 1) = b.take (i + 1) := by
  rw [List.take_succ_eq_append_getElem h1, List.take_succ_eq_append_getElem h2, h, e]
theorem ne_of_get {α : Type} {a b : List α} {i : Nat} (h1 : i < a.length) (h2 : i < b.length) (e : a[i] ≠ b[i]) : a ≠ b := by
  rintro rfl; exact e rfl
structure Md where
  n : Int
  d : Int
  l : List Pt
  deriving DecidableEq, Inhabited
def Md.c (m : Md) : List D := [i64 m.n, i64 m.d, pts m.l]
abbrev Md.dc (m : Md) : DC := .agg [i64 m.n, i64 m.d, pts m.l]
def mchk (m : Md) : Int := if askd m.n m.d = 0 ∧ fchk m.l = 0 then 0 else 8
theorem mchk_08 (m : Md) : mchk m = 0 ∨ mchk m = 8 := by unfold mchk; split <;> simp
theorem mchk_ok {m : Md} (h : mchk m = 0) : askd m.n m.d = 0 ∧ fchk m.l = 0 := by
  unfold mchk at h
  split at h
  · assumption
  · omega
theorem mchk_orN (m : Md) : mchk m = if orN (askd m.n m.d) (fchk m.l) = 0 then 0 else 8 := by
  unfold mchk orN
  by_cases h : askd m.n m.d = 0 <;> simp [h]
theorem ofirst_fn (a b : Int) : FnOK Try.prog 63 [.one (.list 1 [[i64 a], [i64 b]])] (ret1 (orN a b)) := by
  refine fn_ok (by kernel_rfl) ty_ok Try.func63 rfl (fun _ _ => Try.call63 _ _) rfl ?_
  intro hw
  repeat' ((conv => whnf); first | (with_reducible first | refine br_t ?_ | refine br_f ?_ | refine za ?_ | refine zg ?_) | refine zp ?_ | refine zq ?_ | (with_reducible first | refine bc (fun h => ?_) (fun h => ?_) | refine zt ?_ | refine zf ?_ | refine br_i (fun h => ?_) (fun h => ?_)) | refine zg ?_ | refine zi ?_ | refine zb ?_)
  refine loop_J (by kernel_rfl) ty_ok (σ := Nat) (fun i => [(7, sV (.int .i64 i))]) (fun _ => []) (fun i => i = 0 ∨ (i = 1 ∧ a = 0) ∨ (i = 2 ∧ a = 0 ∧ b = 0)) (fun i => 2 - i) 0 (.inl rfl) ?_ ?_
  · (conv => whnf); exact zent
  intro i hi
  have hlen : ([[i64 a], [i64 b]] : List (List D)).length = 2 := rfl
  have hel0 : ([[i64 a], [i64 b]] : List (List D))[((0 : Nat) : Int).toNat]? = some [i64 a] := rfl
  have hel1 : ([[i64 a], [i64 b]] : List (List D))[((1 : Nat) : Int).toNat]? = some [i64 b] := rfl
  have q0 : 0 ≤ ((0 : Nat) : Int) ∧ ((0 : Nat) : Int) < (([[i64 a], [i64 b]] : List (List D)).length : Int) := ⟨by omega, by simp⟩
  have q1 : 0 ≤ ((1 : Nat) : Int) ∧ ((1 : Nat) : Int) < (([[i64 a], [i64 b]] : List (List D)).length : Int) := ⟨by omega, by simp⟩
  rcases hi with rfl | ⟨rfl, h1⟩ | ⟨rfl, h1, h2⟩
  · repeat' ((conv => whnf); first | (with_reducible first | refine br_t ?_ | refine br_f ?_ | refine za ?_ | refine zg ?_) | first | (refine (Exists.intro _ (And.intro (And.intro hel0 (Nat.le_of_ble_eq_true rfl)) ?_))) | (refine And.intro q0 ?_) | refine zp ?_ | refine zq ?_ | (with_reducible first | refine bc (fun h => ?_) (fun h => ?_) | refine zt ?_ | refine zf ?_ | refine br_i (fun h => ?_) (fun h => ?_)) | refine zg ?_ | refine zi ?_ | refine zb ?_)
    all_goals conv => whnf
    · refine r_int ?_
      unfold orN; rw [if_neg (by assumption)]
    · refine ⟨1, .inr (.inl ⟨rfl, by omega⟩), ?_, by show 2 - 1 < 2 - 0; decide⟩
      (conv => whnf); exact zent
  · repeat' ((conv => whnf); first | (with_reducible first | refine br_t ?_ | refine br_f ?_ | refine za ?_ | refine zg ?_) | first | (refine (Exists.intro _ (And.intro (And.intro hel1 (Nat.le_of_ble_eq_true rfl)) ?_))) | (refine And.intro q1 ?_) | refine zp ?_ | refine zq ?_ | (with_reducible first | refine bc (fun h => ?_) (fun h => ?_) | refine zt ?_ | refine zf ?_ | refine br_i (fun h => ?_) (fun h => ?_)) | refine zg ?_ | refine zi ?_ | refine zb ?_)
    all_goals conv => whnf
    · refine r_int ?_
      unfold orN; rw [if_pos h1]
    · refine ⟨2, .inr (.inr ⟨rfl, h1, by omega⟩), ?_, by show 2 - 2 < 2 - 1; decide⟩
      (conv => whnf); exact zent
  · repeat' ((conv => whnf); first | (with_reducible first | refine br_t ?_ | refine br_f ?_ | refine za ?_ | refine zg ?_) | refine zp ?_ | refine zq ?_ | (with_reducible first | refine bc (fun h => ?_) (fun h => ?_) | refine zt ?_ | refine zf ?_ | refine br_i (fun h => ?_) (fun h => ?_)) | refine zg ?_ | refine zi ?_ | refine zb ?_)
    all_goals conv => whnf
    refine r_int ?_
    unfold orN; rw [if_pos h1]; exact h2.symm
theorem oCheck_fn (m : Md) : FnOK Try.prog 44 [m.dc] (ret1 (mchk m)) := by
  refine fn_ok (by kernel_rfl) ty_ok Try.func44 rfl (fun _ _ => Try.call44 _ _) rfl ?_
  intro hw
  clear hw
  rw [mchk_orN]
  have H := ofirst_fn (askd m.n m.d) (fchk m.l)
  generalize orN (askd m.n m.d) (fchk m.l) = z at *
  by_cases h : z = 0
  all_goals
    repeat' ((conv => whnf); first | (with_reducible first | refine br_t ?_ | refine br_f ?_ | refine za ?_ | refine zg ?_ | refine xi (asked_fn _ _) ?_ | refine xi (fCheck_fn _) ?_) | refine zp ?_ | refine zq ?_ | (with_reducible first | refine bc (fun h => ?_) (fun h => ?_) | refine zt ?_ | refine zf ?_ | refine br_i (fun h => ?_) (fun h => ?_)) | refine zg ?_ | refine zi ?_ | refine zb ?_)
    all_goals conv => whnf
    all_goals simp [h]
theorem roCheck_fn (m : Md) : FnOK Try.prog 53 [m.dc] (ret1 (mchk m)) := by
  refine fn_ok (by kernel_rfl) ty_ok Try.func53 rfl (fun _ _ => Try.call53 _ _) rfl ?_
  intro hw
  clear hw
  unfold mchk
  have H1 := rasked_fn m.n m.d
  have H2 := rfCheck_fn m.l
  generalize askd m.n m.d = z at *
  generalize fchk m.l = y at *
  by_cases h : z = 0 <;> by_cases h' : y = 0
  all_goals
    repeat' ((conv => whnf); first | (with_reducible first | refine br_t ?_ | refine br_f ?_ | refine za ?_ | refine zg ?_) | refine zp ?_ | refine zq ?_ | (with_reducible first | refine bc (fun h => ?_) (fun h => ?_) | refine zt ?_ | refine zf ?_ | refine br_i (fun h => ?_) (fun h => ?_)) | refine zg ?_ | refine zi ?_ | refine zb ?_)
    all_goals conv => whnf
    all_goals simp [h, h']
theorem rfTwin_fn (l : List Pt) (hl : l.length ≤ 1000000) : FnOK Try.prog 33 [fld l] (.c (fld l)) := by
  refine fn_ok (by kernel_rfl) (ty_okK [6] [] [] []) Try.func33 rfl (fun _ _ => Try.call33 _ _) rfl ?_
  intro hw
  repeat' ((conv => whnf); first | (with_reducible first | refine br_t ?_ | refine br_f ?_ | refine za ?_ | refine zg ?_ | refine zo ?_) | rw [List.length_map] | refine zp ?_ | refine zq ?_ | (with_reducible first | refine bc (fun h => ?_) (fun h => ?_) | refine zt ?_ | refine zf ?_ | refine br_i (fun h => ?_) (fun h => ?_)) | refine zg ?_ | refine zi ?_ | refine zb ?_ | refine zl ?_)
  all_goals conv => whnf
  all_goals rfl
theorem roTwin_fn (m : Md) (hl : m.l.length ≤ 1000000) : FnOK Try.prog 7 [m.dc] (.c m.dc) := by
  refine fn_ok (by kernel_rfl) ty_ok Try.func7 rfl (fun _ _ => Try.call7 _ _) rfl ?_
  intro hw
  have H := rfTwin_fn m.l hl
  exact zw
end Go.Proofs.Ytnjgfhgpicmklaa

namespace Go.Proofs.Ytnjgfhgpicmklaa
open Go Go.RowKit Sx
namespace Sx
def shModel : Sh := .st (.fc 2 shRatio (.fc 1 shField .f0))
end Sx
theorem fits_model {ds : List D} (h : Fits shModel ds) : ∃ m : Md, ds = m.c := by
  obtain ⟨_, _, rfl, h1, _, _, rfl, h2, rfl⟩ := h
  obtain ⟨n, d, rfl⟩ := fits_ratio h1
  obtain ⟨l, rfl⟩ := fits_field h2
  exact ⟨⟨n, d, l⟩, rfl⟩
theorem fit_model {c : DC} (h : FitC shModel c) : ∃ m : Md, c = m.dc := by
  obtain ⟨ds, rfl, h⟩ := h
  obtain ⟨m, rfl⟩ := fits_model h
  exact ⟨m, rfl⟩
end Go.Proofs.Ytnjgfhgpicmklaa

namespace Go.Proofs
open Go.Shelf
end Go.Proofs

namespace Go.Proofs.Ytnjgfhgpicmklaa
open Go Go.Shelf Go.RowKit Go.Lib Go.Sort Sx
namespace Sx
end Sx
end Go.Proofs.Ytnjgfhgpicmklaa

namespace Go.Proofs.Ytnjgfhgpicmklaa
open Go Go.RowKit Go.Sort Sx
def fx (n m : Int) (p : Pt) : Int := p.a * m + p.b * n
def ldr (n m : Int) (p q : Pt) : Prop := fx n m q < fx n m p ∨ fx n m p = fx n m q ∧ (q.b < p.b ∨ p.b = q.b ∧ p.id < q.id)
instance (n m : Int) (p q : Pt) : Decidable (ldr n m p q) := by unfold ldr; infer_instance
def srt (n m : Int) (l : List Pt) : List Pt := l.mergeSort fun x y => !decide (ldr n m y x)
end Go.Proofs.Ytnjgfhgpicmklaa

namespace Go.Proofs.Ytnjgfhgpicmklaa
open Go Go.RowKit Go.Sort Sx
end Go.Proofs.Ytnjgfhgpicmklaa

namespace Go.Proofs.Ytnjgfhgpicmklaa
open Go Go.RowKit Go.Sort Sx
abbrev ints (l : List Int) : D := .list 1 (l.map fun i => [i64 i])
end Go.Proofs.Ytnjgfhgpicmklaa

namespace Go.Proofs.Ytnjgfhgpicmklaa
open Go Go.RowKit Go.Sort Sx
theorem ints_get {l : List Int} {i : Nat} (h : i < l.length) : (l.map fun i => [i64 i])[((i : Nat) : Int).toNat]? = some [i64 l[i]] := by
  rw [Int.toNat_natCast, List.getElem?_map, List.getElem?_eq_getElem h]; rfl
theorem at1_has {l : List Pt} {id : Int} (hs : incr l = true) : at1 l id 0 = if has l id then (pos l id : Int) else -1 := by
  obtain ⟨h1, h2⟩ := pos_spec (id := id) hs
  have h3 := has_pos (id := id) hs
  have hne : ∀ k (h : k < l.length), k < pos l id → l[k].id ≠ id := fun k h hk => by have := h1 k h hk; omega
  cases hh : has l id
  · rw [if_neg (by decide)]
    have hn : ∀ k (h : k < l.length), k < l.length → l[k].id ≠ id := fun k h _ e => by
      have : has l id = true := by unfold has; exact List.any_eq_true.2 ⟨_, List.getElem_mem h, by simpa using e⟩
      rw [hh] at this; cases this
    rw [at1_drop rfl (Nat.le_refl _) hn, List.drop_eq_nil_of_le (Nat.le_refl _), at1]
  · obtain ⟨hlt, he⟩ := h3.1 hh
    rw [if_pos rfl, at1_drop rfl (by omega) hne, List.drop_eq_getElem_cons hlt, at1, if_pos he]
end Go.Proofs.Ytnjgfhgpicmklaa

namespace Go.Proofs.Ytnjgfhgpicmklaa
open Go Go.RowKit Go.Sort Sx
abbrev retFl (x : List Pt × Int) : DV := .tup [fld x.1, .one (i64 x.2)]
def changeV (l : List Pt) (p : Pt) : List Pt × Int := if fchk l = 0 then (if p.chk = 0 then (if has l p.id then (l.set (pos l p.id) p, 0) else ([], 6)) else ([], 8)) else ([], fchk l)
theorem fChange_fn (l : List Pt) (p : Pt) : FnOK Try.prog 72 [fld l, p.dc] (retFl (changeV l p)) := by
  have H1 := fCheck_fn l
  have H2 := kCheck_fn p.id p.a p.b
  have H3 := fplace_fn l p.id
  unfold placeV at H3
  unfold changeV
  by_cases h1 : fchk l = 0
  · obtain ⟨k1, k2, k3⟩ := fchk_ok h1
    rw [if_pos h1] at H3 ⊢
    rw [h1] at H1
    by_cases h2 : p.chk = 0
    · rw [if_pos h2]
      unfold Pt.chk at h2
      rw [h2] at H2
      cases hh : has l p.id
      · rw [hh, if_neg (by decide)] at H3
        refine fn_ok (by kernel_rfl) ty_ok Try.func72 rfl (fun _ _ => Try.call72 _ _) rfl ?_
        intro hw
        clear hw
        exact zw
      · rw [hh, if_pos rfl] at H3
        obtain ⟨hlt, _⟩ := (has_pos k3).1 hh
        have hel := pts_get hlt
        have H4 := clonePt_own (l.map Pt.c) (by simp; omega)
        rw [if_pos rfl]
        have hset : (l.map Pt.c).set ((pos l p.id : Nat) : Int).toNat p.c = (l.set (pos l p.id) p).map Pt.c := by rw [Int.toNat_natCast, List.map_set]
        refine fn_ok (by kernel_rfl) (ty_okK [36] [] [] []) Try.func72 rfl (fun _ _ => Try.call72 _ _) rfl ?_
        intro hw
        clear hw
        repeat' ((conv => whnf); first | (with_reducible first | refine br_t ?_ | refine br_f ?_ | refine za ?_ | refine zg ?_ | refine zo ?_) | rw [List.length_map] | refine zp ?_ | refine zq ?_ | (with_reducible first | refine bc (fun h => ?_) (fun h => ?_) | refine zt ?_ | refine zf ?_ | refine br_i (fun h => ?_) (fun h => ?_)) | refine zg ?_ | refine zi ?_ | refine zb ?_ | refine zl ?_)
        all_goals conv => whnf
        all_goals exact congrArg (fun x => DV.tup [.agg [.list 3 x], .one (i64 0)]) hset
    · rw [if_neg h2]
      have h8 : cpt p.id p.a p.b = 8 := (cpt_08 p.id p.a p.b).resolve_left h2
      rw [h8] at H2
      refine fn_ok (by kernel_rfl) ty_ok Try.func72 rfl (fun _ _ => Try.call72 _ _) rfl ?_
      intro hw
      clear hw
      exact zw
  · rw [if_neg h1]
    generalize fchk l = z at *
    refine fn_ok (by kernel_rfl) ty_ok Try.func72 rfl (fun _ _ => Try.call72 _ _) rfl ?_
    intro hw
    clear hw
    exact zw
def without (l : List Pt) (id : Int) : List Pt := l.filter fun p => decide (p.id ≠ id)
def takeV (l : List Pt) (id : Int) : List Pt × Int := if fchk l = 0 then (if has l id then (without l id, 0) else ([], 6)) else ([], fchk l)
end Go.Proofs.Ytnjgfhgpicmklaa

namespace Go.Proofs.Ytnjgfhgpicmklaa
open Go Go.RowKit Go.Sort Sx
def insP (l : List Pt) (p : Pt) : List Pt := l.take (pos l p.id) ++ p :: l.drop (pos l p.id)
def putV (l : List Pt) (p : Pt) : List Pt × Int := if fchk l = 0 then (if p.chk = 0 then (if has l p.id then ([], 14) else if l.length = 64 then ([], 18) else (insP l p, 0)) else ([], 8)) else ([], fchk l)
end Go.Proofs.Ytnjgfhgpicmklaa

namespace Go.Proofs.Ytnjgfhgpicmklaa
open Go Go.RowKit Go.Sort Sx
structure Mt where
  n : Int
  d : Int
  i : Int
  j : Int
  deriving DecidableEq, Inhabited
def Mt.c (m : Mt) : List D := [i64 m.n, i64 m.d, i64 m.i, i64 m.j]
abbrev Mt.dc (m : Mt) : DC := .agg [i64 m.n, i64 m.d, i64 m.i, i64 m.j]
abbrev mts (l : List Mt) : D := .list 4 (l.map Mt.c)
end Go.Proofs.Ytnjgfhgpicmklaa

namespace Go.Proofs.Ytnjgfhgpicmklaa
open Go Go.RowKit Go.Sort Sx
def Mt.ok (m : Mt) : Prop := chk m.n m.d = 0 ∧ (-9223372036854775808 ≤ m.n ∧ m.n ≤ 9223372036854775807) ∧ m.d ≤ 9223372036854775807 ∧ (-9223372036854775808 ≤ m.i ∧ m.i ≤ 9223372036854775807) ∧ -9223372036854775808 ≤ m.j ∧ m.j ≤ 9223372036854775807
def mlt (a b : Mt) : Prop := qv a.n a.d < qv b.n b.d ∨ qv a.n a.d = qv b.n b.d ∧ (a.i < b.i ∨ a.i = b.i ∧ a.j < b.j)
instance (a b : Mt) : Decidable (mlt a b) := by unfold mlt; infer_instance
def msrt (l : List Mt) : List Mt := l.mergeSort fun x y => !decide (mlt y x)
theorem mlt_irrefl (a : Mt) : ¬ mlt a a := by
  unfold mlt
  simp [Rat.lt_irrefl]
theorem mlt_trans {a b c : Mt} (h1 : mlt a b) (h2 : mlt b c) : mlt a c := by
  unfold mlt at *
  rcases h1 with h1 | ⟨e1, h1⟩ <;> rcases h2 with h2 | ⟨e2, h2⟩
  · exact .inl (Std.lt_trans h1 h2)
  · exact .inl (by rw [← e2]; exact h1)
  · exact .inl (by rw [e1]; exact h2)
  · exact .inr ⟨e1.trans e2, by omega⟩
theorem mlt_tri (a b : Mt) : mlt a b ∨ mlt b a ∨ (qv a.n a.d = qv b.n b.d ∧ a.i = b.i ∧ a.j = b.j) := by
  unfold mlt
  by_cases h1 : qv a.n a.d < qv b.n b.d
  · exact .inl (.inl h1)
  · by_cases h2 : qv b.n b.d < qv a.n a.d
    · exact .inr (.inl (.inl h2))
    · have e : qv a.n a.d = qv b.n b.d := Rat.le_antisymm (Rat.not_lt.1 h2) (Rat.not_lt.1 h1)
      rw [e]
      simp only [true_and]
      have := Rat.lt_irrefl (a := qv b.n b.d)
      simp only [this, false_or]
      omega
theorem mlt_eq {a b : Mt} (h1 : chk a.n a.d = 0) (h2 : chk b.n b.d = 0) (k1 : ¬ mlt a b) (k2 : ¬ mlt b a) : a = b := by
  rcases mlt_tri a b with h | h | ⟨h, hi, hj⟩
  · exact absurd h k1
  · exact absurd h k2
  · obtain ⟨e1, e2⟩ := (qv_inj h1 h2).1 h
    cases a; cases b
    simp_all
end Go.Proofs.Ytnjgfhgpicmklaa

namespace Go.Proofs.Ytnjgfhgpicmklaa
open Go Go.RowKit Go.Sort Sx
def bcnt : List Mt → Int → Int → Nat
  | [], _, _ => 0
  | m :: l, n, e => if n * m.d < m.n * e then 0 else bcnt l n e + 1
structure Asc (l : List Mt) : Prop where
  ok : ∀ i (h : i < l.length), chk l[i].n l[i].d = 0
  up : ∀ j i (hj : j < l.length) (hij : i < j), qv l[i].n l[i].d ≤ qv l[j].n l[j].d
end Go.Proofs.Ytnjgfhgpicmklaa

namespace Go.Proofs.Ytnjgfhgpicmklaa
open Go Go.RowKit Go.Sort Sx
end Go.Proofs.Ytnjgfhgpicmklaa
