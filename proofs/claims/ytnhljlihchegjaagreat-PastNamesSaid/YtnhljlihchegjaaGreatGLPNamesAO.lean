import Derived.Test.YtnhljlihchegjaaGreatGLPNamesAN
import Derived.Shelf.SlSortCmp.WholeK
import Derived.Shelf.SlSortCmp.NoneTotal
import Derived.Ground.SlsfProg
import Derived.Test.YtnhljlihchegjaaGreatProg
set_option linter.all false
/- Models: checks, copies, comparing. No conditions. -/
namespace Go.Proofs.YtnhljlihchegjaaGreat
open Go.RowKit Go.Sort Sx
theorem Pt.eq_iff {p q : Pt} : p = q ↔ p.id = q.id ∧ p.a = q.a ∧ p.b = q.b := by
  cases p; cases q; simp
theorem take_all_eq {α : Type} {a b : List α} {i : Nat} (h : a.take i = b.take i) (hl : a.length = b.length) (hi : a.length ≤ i) : a = b := by
  rw [List.take_of_length_le hi, List.take_of_length_le (by omega)] at h; exact h
theorem take_succ_eq {α : Type} {a b : List α} {i : Nat} (h : a.take i = b.take i) (h1 : i < a.length) (h2 : i < b.length) (e : a[i] = b[i]) : a.take (i + 1) = b.take (i + 1) := by
  rw [List.take_succ_eq_append_getElem h1, List.take_succ_eq_append_getElem h2, h, e]
theorem ne_of_get {α : Type} {a b : List α} {i : Nat} (h1 : i < a.length) (h2 : i < b.length) (e : a[i] ≠ b[i]) : a ≠ b := by
  rintro rfl; exact e rfl
/-- a model -/
structure Md where
  n : Int
  d : Int
  l : List Pt
  deriving DecidableEq, Inhabited
def Md.c (m : Md) : List D := [i64 m.n, i64 m.d, pts m.l]
abbrev Md.dc (m : Md) : DC := .agg [i64 m.n, i64 m.d, pts m.l]
def mchk (m : Md) : Int := if askd m.n m.d = 0 ∧ fchk m.l = 0 then 0 else 8
theorem mchk_08 (m : Md) : mchk m = 0 ∨ mchk m = 8 := by unfold mchk; split <;> simp
theorem mchk_ok {m : Md} (h : mchk m = 0) : askd m.n m.d = 0 ∧ fchk m.l = 0 := by
  unfold mchk at h
  split at h
  · assumption
  · omega
theorem mchk_orN (m : Md) : mchk m = if orN (askd m.n m.d) (fchk m.l) = 0 then 0 else 8 := by
  unfold mchk orN
  by_cases h : askd m.n m.d = 0 <;> simp [h]
theorem rfSame_fn (a b : List Pt) : FnOK Tryz.prog 54 [fld a, fld b] (.c (.one (bol (decide (a = b))))) := by
  refine fn_ok (by kernel_rfl) ty_ok Tryz.func54 rfl (fun _ _ => Tryz.call54 _ _) rfl ?_
  intro hw
  simp only [WDCs, WDC, WDs] at hw
  obtain ⟨w1, _⟩ := wd_pts hw.1.1
  obtain ⟨w2, _⟩ := wd_pts hw.2.1.1
  clear hw
  by_cases h0 : a.length = b.length
  · repeat' ((conv => whnf); first | (with_reducible first | refine br_t ?_ | refine br_f ?_ | refine za ?_ | refine zg ?_ | refine zo ?_ | refine zb ?_ | refine zm ?_ | refine zc ?_ | refine ze ?_) | rw [List.length_map] | ((with_reducible refine bc_t ?_ ?_); (first | omega | decide)) | ((with_reducible refine bc_f ?_ ?_); (first | omega | decide)) | (with_reducible first | refine bc (fun h => ?_) (fun h => ?_) | refine zt ?_ | refine zf ?_ | refine br_i (fun h => ?_) (fun h => ?_) | refine xi (pv_bool fun _ => nev30 _ _ _ _ _ _ _ _ _) ?_) | refine zg ?_ | refine zi ?_)
    refine loop_J (by kernel_rfl) ty_ok (σ := Nat) (fun i => [(5, sV (.int .i64 i))]) (fun _ => []) (fun i => i ≤ a.length ∧ a.take i = b.take i) (fun i => a.length - i) 0 ⟨by omega, rfl⟩ ?_ ?_
    · (conv => whnf); exact zent
    rintro i ⟨hi, hI⟩
    rcases Nat.lt_or_ge i a.length with hlt | hge
    · have hb : i < b.length := by omega
      have he1 := pts_get hlt
      have he2 := pts_get hb
      by_cases hc : a[i] = b[i]
      · have hq := Pt.eq_iff.1 hc
        repeat' ((conv => whnf); first | (with_reducible first | refine br_t ?_ | refine br_f ?_ | refine za ?_ | refine zg ?_ | refine zo ?_ | refine zb ?_ | refine zm ?_ | refine zc ?_ | refine ze ?_) | rw [List.length_map] | ((with_reducible refine bc_t ?_ ?_); (first | omega | decide)) | ((with_reducible refine bc_f ?_ ?_); (first | omega | decide)) | (with_reducible first | refine bc (fun h => ?_) (fun h => ?_) | refine zt ?_ | refine zf ?_ | refine br_i (fun h => ?_) (fun h => ?_) | refine xi (pv_bool fun _ => nev30 _ _ _ _ _ _ _ _ _) ?_) | refine zg ?_ | refine zi ?_)
        all_goals conv => whnf
        refine ⟨i + 1, ⟨by omega, take_succ_eq hI hlt hb hc⟩, ?_, by omega⟩
        (conv => whnf); exact zent
      · have hq := mt Pt.eq_iff.2 hc
        rw [decide_eq_false (ne_of_get hlt hb hc)]
        repeat' ((conv => whnf); first | (with_reducible first | refine br_t ?_ | refine br_f ?_ | refine za ?_ | refine zg ?_ | refine zo ?_ | refine zb ?_ | refine zm ?_ | refine zc ?_ | refine ze ?_) | rw [List.length_map] | ((with_reducible refine bc_t ?_ ?_); (first | omega | decide)) | ((with_reducible refine bc_f ?_ ?_); (first | omega | decide)) | (with_reducible first | refine bc (fun h => ?_) (fun h => ?_) | refine zt ?_ | refine zf ?_ | refine br_i (fun h => ?_) (fun h => ?_) | refine xi (pv_bool fun _ => nev30 _ _ _ _ _ _ _ _ _) ?_) | refine zg ?_ | refine zi ?_)
        all_goals conv => whnf
        all_goals rfl
    · rw [decide_eq_true (take_all_eq hI h0 hge)]
      repeat' ((conv => whnf); first | (with_reducible first | refine br_t ?_ | refine br_f ?_ | refine za ?_ | refine zg ?_ | refine zo ?_ | refine zb ?_ | refine zm ?_ | refine zc ?_ | refine ze ?_) | rw [List.length_map] | ((with_reducible refine bc_t ?_ ?_); (first | omega | decide)) | ((with_reducible refine bc_f ?_ ?_); (first | omega | decide)) | (with_reducible first | refine bc (fun h => ?_) (fun h => ?_) | refine zt ?_ | refine zf ?_ | refine br_i (fun h => ?_) (fun h => ?_) | refine xi (pv_bool fun _ => nev30 _ _ _ _ _ _ _ _ _) ?_) | refine zg ?_ | refine zi ?_)
      all_goals conv => whnf
      all_goals rfl
  · rw [decide_eq_false (fun h => h0 (congrArg List.length h))]
    repeat' ((conv => whnf); first | (with_reducible first | refine br_t ?_ | refine br_f ?_ | refine za ?_ | refine zg ?_ | refine zo ?_ | refine zb ?_ | refine zm ?_ | refine zc ?_ | refine ze ?_) | rw [List.length_map] | ((with_reducible refine bc_t ?_ ?_); (first | omega | decide)) | ((with_reducible refine bc_f ?_ ?_); (first | omega | decide)) | (with_reducible first | refine bc (fun h => ?_) (fun h => ?_) | refine zt ?_ | refine zf ?_ | refine br_i (fun h => ?_) (fun h => ?_) | refine xi (pv_bool fun _ => nev30 _ _ _ _ _ _ _ _ _) ?_) | refine zg ?_ | refine zi ?_)
    all_goals conv => whnf
    all_goals rfl
theorem ofirst_fn (a b : Int) : FnOK Tryz.prog 70 [.one (.list 1 [[i64 a], [i64 b]])] (ret1 (orN a b)) := by
  refine fn_ok (by kernel_rfl) ty_ok Tryz.func70 rfl (fun _ _ => Tryz.call70 _ _) rfl ?_
  intro hw
  repeat' ((conv => whnf); first | (with_reducible first | refine br_t ?_ | refine br_f ?_ | refine za ?_ | refine zg ?_ | refine zo ?_ | refine zb ?_ | refine zm ?_ | refine zc ?_ | refine ze ?_) | ((with_reducible refine bc_t ?_ ?_); (first | omega | decide)) | ((with_reducible refine bc_f ?_ ?_); (first | omega | decide)) | (with_reducible first | refine bc (fun h => ?_) (fun h => ?_) | refine zt ?_ | refine zf ?_ | refine br_i (fun h => ?_) (fun h => ?_)) | refine zg ?_ | refine zi ?_)
  refine loop_J (by kernel_rfl) ty_ok (σ := Nat) (fun i => [(7, sV (.int .i64 i))]) (fun _ => []) (fun i => i = 0 ∨ (i = 1 ∧ a = 0) ∨ (i = 2 ∧ a = 0 ∧ b = 0)) (fun i => 2 - i) 0 (.inl rfl) ?_ ?_
  · (conv => whnf); exact zent
  intro i hi
  have hlen : ([[i64 a], [i64 b]] : List (List D)).length = 2 := rfl
  have hel0 : ([[i64 a], [i64 b]] : List (List D))[((0 : Nat) : Int).toNat]? = some [i64 a] := rfl
  have hel1 : ([[i64 a], [i64 b]] : List (List D))[((1 : Nat) : Int).toNat]? = some [i64 b] := rfl
  have q0 : 0 ≤ ((0 : Nat) : Int) ∧ ((0 : Nat) : Int) < (([[i64 a], [i64 b]] : List (List D)).length : Int) := ⟨by omega, by simp⟩
  have q1 : 0 ≤ ((1 : Nat) : Int) ∧ ((1 : Nat) : Int) < (([[i64 a], [i64 b]] : List (List D)).length : Int) := ⟨by omega, by simp⟩
  rcases hi with rfl | ⟨rfl, h1⟩ | ⟨rfl, h1, h2⟩
  · repeat' ((conv => whnf); first | (with_reducible first | refine br_t ?_ | refine br_f ?_ | refine za ?_ | refine zg ?_ | refine zo ?_ | refine zb ?_ | refine zm ?_ | refine zc ?_ | refine ze ?_) | first | (refine (Exists.intro _ (And.intro (And.intro hel0 (Nat.le_of_ble_eq_true rfl)) ?_))) | (refine And.intro q0 ?_) | ((with_reducible refine bc_t ?_ ?_); (first | omega | decide)) | ((with_reducible refine bc_f ?_ ?_); (first | omega | decide)) | (with_reducible first | refine bc (fun h => ?_) (fun h => ?_) | refine zt ?_ | refine zf ?_ | refine br_i (fun h => ?_) (fun h => ?_)) | refine zg ?_ | refine zi ?_)
    all_goals conv => whnf
    · refine r_int ?_
      unfold orN; rw [if_neg (by assumption)]
    · refine ⟨1, .inr (.inl ⟨rfl, by omega⟩), ?_, by show 2 - 1 < 2 - 0; decide⟩
      (conv => whnf); exact zent
  · repeat' ((conv => whnf); first | (with_reducible first | refine br_t ?_ | refine br_f ?_ | refine za ?_ | refine zg ?_ | refine zo ?_ | refine zb ?_ | refine zm ?_ | refine zc ?_ | refine ze ?_) | first | (refine (Exists.intro _ (And.intro (And.intro hel1 (Nat.le_of_ble_eq_true rfl)) ?_))) | (refine And.intro q1 ?_) | ((with_reducible refine bc_t ?_ ?_); (first | omega | decide)) | ((with_reducible refine bc_f ?_ ?_); (first | omega | decide)) | (with_reducible first | refine bc (fun h => ?_) (fun h => ?_) | refine zt ?_ | refine zf ?_ | refine br_i (fun h => ?_) (fun h => ?_)) | refine zg ?_ | refine zi ?_)
    all_goals conv => whnf
    · refine r_int ?_
      unfold orN; rw [if_pos h1]
    · refine ⟨2, .inr (.inr ⟨rfl, h1, by omega⟩), ?_, by show 2 - 2 < 2 - 1; decide⟩
      (conv => whnf); exact zent
  · repeat' ((conv => whnf); first | (with_reducible first | refine br_t ?_ | refine br_f ?_ | refine za ?_ | refine zg ?_ | refine zo ?_ | refine zb ?_ | refine zm ?_ | refine zc ?_ | refine ze ?_) | ((with_reducible refine bc_t ?_ ?_); (first | omega | decide)) | ((with_reducible refine bc_f ?_ ?_); (first | omega | decide)) | (with_reducible first | refine bc (fun h => ?_) (fun h => ?_) | refine zt ?_ | refine zf ?_ | refine br_i (fun h => ?_) (fun h => ?_)) | refine zg ?_ | refine zi ?_)
    all_goals conv => whnf
    refine r_int ?_
    unfold orN; rw [if_pos h1]; exact h2.symm
theorem oCheck_fn (m : Md) : FnOK Tryz.prog 22 [m.dc] (ret1 (mchk m)) := by
  refine fn_ok (by kernel_rfl) ty_ok Tryz.func22 rfl (fun _ _ => Tryz.call22 _ _) rfl ?_
  intro hw
  clear hw
  rw [mchk_orN]
  have H := ofirst_fn (askd m.n m.d) (fchk m.l)
  generalize orN (askd m.n m.d) (fchk m.l) = z at *
  by_cases h : z = 0
  all_goals
    repeat' ((conv => whnf); first | (with_reducible first | refine br_t ?_ | refine br_f ?_ | refine za ?_ | refine zg ?_ | refine zo ?_ | refine zb ?_ | refine zm ?_ | refine zc ?_ | refine ze ?_ | refine xi (asked_fn _ _) ?_ | refine xi (fCheck_fn _) ?_) | ((with_reducible refine bc_t ?_ ?_); (first | omega | decide)) | ((with_reducible refine bc_f ?_ ?_); (first | omega | decide)) | (with_reducible first | refine bc (fun h => ?_) (fun h => ?_) | refine zt ?_ | refine zf ?_ | refine br_i (fun h => ?_) (fun h => ?_)) | refine zg ?_ | refine zi ?_)
    all_goals conv => whnf
    all_goals simp [h]
end Go.Proofs.YtnhljlihchegjaaGreat

/- A law's arguments: models. No conditions of its own. -/
namespace Go.Proofs.YtnhljlihchegjaaGreat
open Go Go.RowKit Sx
namespace Sx
end Sx
end Go.Proofs.YtnhljlihchegjaaGreat

/- The past: checks. No conditions. -/
namespace Go.Proofs.YtnhljlihchegjaaGreat
open Go.RowKit Go.Sort Sx
theorem eqPt_fn (a b : List Pt) : FnOK Tryz.prog 132 [.one (pts a), .one (pts b)] (.c (.one (bol (decide (a = b))))) := by
  refine fn_ok (by kernel_rfl) ty_ok Tryz.func132 rfl (fun _ _ => Tryz.call132 _ _) rfl ?_
  intro hw
  simp only [WDCs, WDC, WDs] at hw
  obtain ⟨w1, _⟩ := wd_pts hw.1
  obtain ⟨w2, _⟩ := wd_pts hw.2.1
  clear hw
  by_cases h0 : a.length = b.length
  · repeat' ((conv => whnf); first | (with_reducible first | refine br_t ?_ | refine br_f ?_ | refine za ?_ | refine zg ?_ | refine zo ?_ | refine zb ?_ | refine zm ?_ | refine zc ?_ | refine ze ?_) | rw [List.length_map] | ((with_reducible refine bc_t ?_ ?_); (first | omega | decide)) | ((with_reducible refine bc_f ?_ ?_); (first | omega | decide)) | (with_reducible first | refine bc (fun h => ?_) (fun h => ?_) | refine zt ?_ | refine zf ?_ | refine br_i (fun h => ?_) (fun h => ?_) | refine xi (pv_bool fun _ => nev30 _ _ _ _ _ _ _ _ _) ?_) | refine zg ?_ | refine zi ?_)
    refine loop_J (by kernel_rfl) ty_ok (σ := Nat) (fun i => [(13, sV (.int .i64 i))]) (fun _ => []) (fun i => i ≤ a.length ∧ a.take i = b.take i) (fun i => a.length - i) 0 ⟨by omega, rfl⟩ ?_ ?_
    · (conv => whnf); exact zent
    rintro i ⟨hi, hI⟩
    rcases Nat.lt_or_ge i a.length with hlt | hge
    · have hb : i < b.length := by omega
      have he1 := pts_get hlt
      have he2 := pts_get hb
      by_cases hc : a[i] = b[i]
      · have hq := Pt.eq_iff.1 hc
        repeat' ((conv => whnf); first | (with_reducible first | refine br_t ?_ | refine br_f ?_ | refine za ?_ | refine zg ?_ | refine zo ?_ | refine zb ?_ | refine zm ?_ | refine zc ?_ | refine ze ?_) | rw [List.length_map] | ((with_reducible refine bc_t ?_ ?_); (first | omega | decide)) | ((with_reducible refine bc_f ?_ ?_); (first | omega | decide)) | (with_reducible first | refine bc (fun h => ?_) (fun h => ?_) | refine zt ?_ | refine zf ?_ | refine br_i (fun h => ?_) (fun h => ?_) | refine xi (pv_bool fun _ => nev30 _ _ _ _ _ _ _ _ _) ?_) | refine zg ?_ | refine zi ?_)
        all_goals conv => whnf
        refine ⟨i + 1, ⟨by omega, take_succ_eq hI hlt hb hc⟩, ?_, by omega⟩
        (conv => whnf); exact zent
      · have hq := mt Pt.eq_iff.2 hc
        rw [decide_eq_false (ne_of_get hlt hb hc)]
        repeat' ((conv => whnf); first | (with_reducible first | refine br_t ?_ | refine br_f ?_ | refine za ?_ | refine zg ?_ | refine zo ?_ | refine zb ?_ | refine zm ?_ | refine zc ?_ | refine ze ?_) | rw [List.length_map] | ((with_reducible refine bc_t ?_ ?_); (first | omega | decide)) | ((with_reducible refine bc_f ?_ ?_); (first | omega | decide)) | (with_reducible first | refine bc (fun h => ?_) (fun h => ?_) | refine zt ?_ | refine zf ?_ | refine br_i (fun h => ?_) (fun h => ?_) | refine xi (pv_bool fun _ => nev30 _ _ _ _ _ _ _ _ _) ?_) | refine zg ?_ | refine zi ?_)
        all_goals conv => whnf
        all_goals rfl
    · rw [decide_eq_true (take_all_eq hI h0 hge)]
      repeat' ((conv => whnf); first | (with_reducible first | refine br_t ?_ | refine br_f ?_ | refine za ?_ | refine zg ?_ | refine zo ?_ | refine zb ?_ | refine zm ?_ | refine zc ?_ | refine ze ?_) | rw [List.length_map] | ((with_reducible refine bc_t ?_ ?_); (first | omega | decide)) | ((with_reducible refine bc_f ?_ ?_); (first | omega | decide)) | (with_reducible first | refine bc (fun h => ?_) (fun h => ?_) | refine zt ?_ | refine zf ?_ | refine br_i (fun h => ?_) (fun h => ?_) | refine xi (pv_bool fun _ => nev30 _ _ _ _ _ _ _ _ _) ?_) | refine zg ?_ | refine zi ?_)
      all_goals conv => whnf
      all_goals rfl
  · rw [decide_eq_false (fun h => h0 (congrArg List.length h))]
    repeat' ((conv => whnf); first | (with_reducible first | refine br_t ?_ | refine br_f ?_ | refine za ?_ | refine zg ?_ | refine zo ?_ | refine zb ?_ | refine zm ?_ | refine zc ?_ | refine ze ?_) | rw [List.length_map] | ((with_reducible refine bc_t ?_ ?_); (first | omega | decide)) | ((with_reducible refine bc_f ?_ ?_); (first | omega | decide)) | (with_reducible first | refine bc (fun h => ?_) (fun h => ?_) | refine zt ?_ | refine zf ?_ | refine br_i (fun h => ?_) (fun h => ?_) | refine xi (pv_bool fun _ => nev30 _ _ _ _ _ _ _ _ _) ?_) | refine zg ?_ | refine zi ?_)
    all_goals conv => whnf
    all_goals rfl
theorem psame_fn (a b : List Pt) : FnOK Tryz.prog 96 [fld a, fld b] (.c (.one (bol (decide (a = b))))) := by
  refine fn_ok (by kernel_rfl) ty_ok Tryz.func96 rfl (fun _ _ => Tryz.call96 _ _) rfl ?_
  intro hw
  clear hw
  have H := eqPt_fn a b
  exact zw
theorem clonePt_fn (l : List (List D)) (hl : l.length ≤ 1000000) : FnOK Tryz.prog 74 [.one (.list 3 l)] (.c (.one (.list 3 l))) := ok_of_own (clonePt_own l hl)
theorem pcopied_fn (l : List Pt) (hl : l.length ≤ 1000000) : FnOK Tryz.prog 95 [fld l] (.c (fld l)) := by
  refine fn_ok (by kernel_rfl) ty_ok Tryz.func95 rfl (fun _ _ => Tryz.call95 _ _) rfl ?_
  intro hw
  clear hw
  have H := clonePt_fn (l.map Pt.c) (by simpa using hl)
  exact zw
/-- a past -/
structure Pa where
  n : Int
  d : Int
  ms : List Md
  deriving DecidableEq, Inhabited
abbrev mos (l : List Md) : D := .list 3 (l.map Md.c)
abbrev Pa.dc (p : Pa) : DC := .agg [i64 p.n, i64 p.d, mos p.ms]
abbrev Md.mo (m : Md) : List D := [i64 m.n, i64 m.d, pts m.l]
theorem mos_get {l : List Md} {i : Nat} (h : i < l.length) : (l.map Md.c)[((i : Nat) : Int).toNat]? = some [i64 l[i].n, i64 l[i].d, pts l[i].l] := by
  rw [Int.toNat_natCast, List.getElem?_map, List.getElem?_eq_getElem h]; rfl
theorem mos_get' {l : List Md} {i : Nat} {j : Int} (h : i < l.length) (e : j.toNat = i) : (l.map Md.c)[j.toNat]? = some [i64 l[i].n, i64 l[i].d, pts l[i].l] := by
  rw [e, List.getElem?_map, List.getElem?_eq_getElem h]; rfl
theorem wd_mos {l : List Md} (h : WD (mos l)) : l.length ≤ 9223372036854775807 := by
  obtain ⟨h1, _, h3⟩ := WD_list.1 h
  simpa using h1
/-- moments of a past, up to a time, are in order, and valid -/
def pgo (n d : Int) : List Md → Bool
  | [] => true
  | [m] => decide (mchk m = 0 ∧ m.n * d ≤ n * m.d)
  | m :: m' :: l => decide (mchk m = 0 ∧ m.n * m'.d < m'.n * m.d) && pgo n d (m' :: l)
theorem pgo_mid {n d : Int} {l : List Md} {i : Nat} (h : i + 1 < l.length) : pgo n d (l.drop i) = (decide (mchk l[i] = 0 ∧ l[i].n * l[i + 1].d < l[i + 1].n * l[i].d) && pgo n d (l.drop (i + 1))) := by
  rw [List.drop_eq_getElem_cons (show i < l.length by omega), List.drop_eq_getElem_cons h, pgo]
theorem pgo_last {n d : Int} {l : List Md} {i : Nat} (h : i < l.length) (h2 : i + 1 = l.length) : pgo n d (l.drop i) = decide (mchk l[i] = 0 ∧ l[i].n * d ≤ n * l[i].d) := by
  rw [List.drop_eq_getElem_cons h, List.drop_eq_nil_of_le (by omega), pgo]
theorem pgo_ge {n d : Int} {l : List Md} {i : Nat} (h : l.length ≤ i) : pgo n d (l.drop i) = true := by
  rw [List.drop_eq_nil_of_le h, pgo]
theorem pgo_bad {n d : Int} {l : List Md} {i : Nat} (h : i < l.length) (hm : mchk l[i] ≠ 0) : pgo n d (l.drop i) = false := by
  rcases Nat.lt_or_ge (i + 1) l.length with h2 | h2
  · rw [pgo_mid h2, decide_eq_false (fun h => hm h.1)]; rfl
  · rw [pgo_last h (by omega), decide_eq_false (fun h => hm h.1)]
def pchk (p : Pa) : Int := if 1 ≤ p.ms.length ∧ p.ms.length ≤ 40 ∧ askd p.n p.d = 0 ∧ pgo p.n p.d p.ms = true then 0 else 8
theorem pchk_08 (p : Pa) : pchk p = 0 ∨ pchk p = 8 := by unfold pchk; split <;> simp
theorem askd_ok' {n d : Int} (h : askd n d = 0) : chk n d = 0 ∧ -1073741824 ≤ n ∧ n ≤ 1073741824 ∧ 1 ≤ d ∧ d ≤ 1024 := by
  unfold askd at h
  split at h
  · rename_i h1; exact absurd h h1
  · rename_i h1
    have h1 : chk n d = 0 := by omega
    have := (chk_iff n d).1 h1
    split at h
    · omega
    · exact ⟨h1, by omega⟩
theorem cmpN_cases (a b : Int) : (a < b ∧ cmpN a b = -1) ∨ (a = b ∧ cmpN a b = 0) ∨ (b < a ∧ cmpN a b = 1) := by
  unfold cmpN
  split
  · exact .inl ⟨by assumption, rfl⟩
  · split
    · exact .inr (.inr ⟨by omega, rfl⟩)
    · exact .inr (.inl ⟨by omega, rfl⟩)
theorem cmp_chk {p q r t : Int} (h1 : chk p q = 0) (h2 : chk r t = 0) : FnOK Tryz.prog 76 (rat2 p q r t) (.tup [.one (i64 (cmpN (p * t) (r * q))), .one (i64 0)]) := by
  have := cmp_fn p q r t
  unfold cmpV bth at this
  rw [if_pos (by rw [h1, if_pos rfl, h2])] at this
  exact this
theorem cmp_bad {p q r t : Int} (h1 : chk p q = 0) (h2 : chk r t ≠ 0) : FnOK Tryz.prog 76 (rat2 p q r t) (.tup [.one (i64 0), .one (i64 8)]) := by
  have := cmp_fn p q r t
  unfold cmpV bth at this
  rw [if_neg (by rw [h1, if_pos rfl]; exact h2)] at this
  exact this
theorem askd_chk {n d : Int} (h : askd n d = 0) : chk n d = 0 := (askd_ok' h).1
end Go.Proofs.YtnhljlihchegjaaGreat

/- A law's arguments: pasts. No conditions of its own. -/
namespace Go.Proofs.YtnhljlihchegjaaGreat
open Go Go.RowKit Sx
namespace Sx
end Sx
end Go.Proofs.YtnhljlihchegjaaGreat

/- The past: checks, walked. No conditions. -/
namespace Go.Proofs.YtnhljlihchegjaaGreat
open Go.RowKit Go.Sort Sx
set_option maxHeartbeats 2000000 in
theorem pCheck_fn (p : Pa) : FnOK Tryz.prog 64 [p.dc] (ret1 (pchk p)) := by
  obtain ⟨n, d, l⟩ := p
  show FnOK _ _ [.agg [i64 n, i64 d, mos l]] _
  refine fn_ok (by kernel_rfl) ty_ok Tryz.func64 rfl (fun _ _ => Tryz.call64 _ _) rfl ?_
  intro hw
  simp only [WDCs, WDC, WDs] at hw
  have w1 := wd_mos hw.1.2.2.1
  clear hw
  have hln : (l.map Md.c).length = l.length := List.length_map ..
  have H0 := asked_fn n d
  unfold pchk
  simp only
  by_cases h0 : 1 ≤ l.length ∧ l.length ≤ 40
  · by_cases h1 : askd n d = 0
    · have hrw : (if 1 ≤ l.length ∧ l.length ≤ 40 ∧ askd n d = 0 ∧ pgo n d l = true then (0 : Int) else 8) = if pgo n d l = true then 0 else 8 := by simp [h0, h1]
      rw [hrw]
      clear hrw
      have hnd := askd_chk h1
      rw [h1] at H0
      repeat' ((conv => whnf); first | (with_reducible first | refine br_t ?_ | refine br_f ?_ | refine za ?_ | refine zg ?_ | refine zo ?_ | refine zb ?_ | refine zm ?_ | refine zc ?_ | refine ze ?_) | ((with_reducible refine bc_t ?_ ?_); (first | omega | decide)) | ((with_reducible refine bc_f ?_ ?_); (first | omega | decide)) | (with_reducible first | refine bc (fun h => ?_) (fun h => ?_) | refine zt ?_ | refine zf ?_ | refine br_i (fun h => ?_) (fun h => ?_)) | refine zg ?_ | refine zi ?_)
      refine loop_J (by kernel_rfl) ty_ok (σ := Nat) (fun i => [(27, sV (.int .i64 i))]) (fun _ => []) (fun i => i ≤ l.length ∧ pgo n d (l.drop i) = pgo n d l) (fun i => l.length - i) 0 ⟨by omega, rfl⟩ ?_ ?_
      · (conv => whnf); exact zent
      rintro i ⟨hi, hI⟩
      rcases Nat.lt_or_ge i l.length with hlt | hge
      · have he1 := mos_get hlt
        have H1 := asked_fn l[i].n l[i].d
        have H2 := fCheck_fn l[i].l
        by_cases hm : mchk l[i] = 0
        · obtain ⟨m1, m2⟩ := mchk_ok hm
          have mc := askd_chk m1
          rw [m1] at H1
          rw [m2] at H2
          have ew : IntKind.i64.wrap ((i : Int) + 1) = ((i + 1 : Nat) : Int) := by rw [IntWalk.i64_in _ (by omega)]; omega
          rcases Nat.lt_or_ge (i + 1) l.length with h2 | h2
          · have he2 := mos_get' (l := l) (i := i + 1) (j := IntKind.i64.wrap ((i : Int) + 1)) h2 (by rw [ew]; omega)
            rw [pgo_mid h2] at hI
            by_cases hc : chk l[i + 1].n l[i + 1].d = 0
            · have H3 := cmp_chk mc hc
              rcases cmpN_cases (l[i].n * l[i + 1].d) (l[i + 1].n * l[i].d) with ⟨c1, c2⟩ | ⟨c1, c2⟩ | ⟨c1, c2⟩
              · rw [decide_eq_true ⟨hm, c1⟩, Bool.true_and] at hI
                rw [c2] at H3
                clear c1
                repeat' ((conv => whnf); first | (with_reducible first | refine br_t ?_ | refine br_f ?_ | refine za ?_ | refine zg ?_ | refine zo ?_ | refine zb ?_ | refine zm ?_ | refine zc ?_ | refine ze ?_) | ((with_reducible refine bc_t ?_ ?_); (first | omega | decide)) | ((with_reducible refine bc_f ?_ ?_); (first | omega | decide)) | (with_reducible first | refine bc (fun h => ?_) (fun h => ?_) | refine zt ?_ | refine zf ?_ | refine br_i (fun h => ?_) (fun h => ?_)) | refine zg ?_ | refine zi ?_)
                all_goals conv => whnf
                refine ⟨i + 1, ⟨by omega, hI⟩, ?_, by omega⟩
                (conv => whnf); exact zent
              · rw [decide_eq_false (fun h => by have := h.2; omega), Bool.false_and] at hI
                rw [c2] at H3
                rw [← hI]
                clear c1
                exact zw
              · rw [decide_eq_false (fun h => by have := h.2; omega), Bool.false_and] at hI
                rw [c2] at H3
                rw [← hI]
                clear c1
                exact zw
            · have H3 := cmp_bad mc hc
              have hb : mchk l[i + 1] ≠ 0 := fun h => hc (askd_chk (mchk_ok h).1)
              rw [pgo_bad h2 hb, Bool.and_false] at hI
              rw [← hI]
              exact zw
          · rw [pgo_last hlt (by omega)] at hI
            have H3 := cmp_chk mc hnd
            rcases cmpN_cases (l[i].n * d) (n * l[i].d) with ⟨c1, c2⟩ | ⟨c1, c2⟩ | ⟨c1, c2⟩
            · rw [decide_eq_true ⟨hm, by omega⟩] at hI
              rw [c2] at H3
              clear c1
              repeat' ((conv => whnf); first | (with_reducible first | refine br_t ?_ | refine br_f ?_ | refine za ?_ | refine zg ?_ | refine zo ?_ | refine zb ?_ | refine zm ?_ | refine zc ?_ | refine ze ?_) | ((with_reducible refine bc_t ?_ ?_); (first | omega | decide)) | ((with_reducible refine bc_f ?_ ?_); (first | omega | decide)) | (with_reducible first | refine bc (fun h => ?_) (fun h => ?_) | refine zt ?_ | refine zf ?_ | refine br_i (fun h => ?_) (fun h => ?_)) | refine zg ?_ | refine zi ?_)
              all_goals conv => whnf
              refine ⟨i + 1, ⟨by omega, by rw [pgo_ge (by omega), hI]⟩, ?_, by omega⟩
              (conv => whnf); exact zent
            · rw [decide_eq_true ⟨hm, by omega⟩] at hI
              rw [c2] at H3
              clear c1
              repeat' ((conv => whnf); first | (with_reducible first | refine br_t ?_ | refine br_f ?_ | refine za ?_ | refine zg ?_ | refine zo ?_ | refine zb ?_ | refine zm ?_ | refine zc ?_ | refine ze ?_) | ((with_reducible refine bc_t ?_ ?_); (first | omega | decide)) | ((with_reducible refine bc_f ?_ ?_); (first | omega | decide)) | (with_reducible first | refine bc (fun h => ?_) (fun h => ?_) | refine zt ?_ | refine zf ?_ | refine br_i (fun h => ?_) (fun h => ?_)) | refine zg ?_ | refine zi ?_)
              all_goals conv => whnf
              refine ⟨i + 1, ⟨by omega, by rw [pgo_ge (by omega), hI]⟩, ?_, by omega⟩
              (conv => whnf); exact zent
            · rw [decide_eq_false (fun h => by have := h.2; omega)] at hI
              rw [c2] at H3
              rw [← hI]
              clear c1
              exact zw
        · rw [pgo_bad hlt hm] at hI
          rw [← hI]
          by_cases m1 : askd l[i].n l[i].d = 0
          · rw [m1] at H1
            have m2 : fchk l[i].l ≠ 0 := fun h => hm (by unfold mchk; rw [if_pos ⟨m1, h⟩])
            generalize fchk l[i].l = z at *
            exact zw
          · generalize askd l[i].n l[i].d = z at *
            exact zw
      · rw [pgo_ge hge] at hI
        rw [← hI]
        exact zw
    · rw [if_neg (fun h => h1 h.2.2.1)]
      generalize askd n d = z at *
      exact zw
  · rw [if_neg (fun h => h0 ⟨h.1, h.2.1⟩)]
    rcases (show l.length < 1 ∨ 40 < l.length by omega) with h1 | h1
    all_goals
      exact zw
end Go.Proofs.YtnhljlihchegjaaGreat

/- The past: the reference's checks, copies, comparing. No conditions. -/
namespace Go.Proofs.YtnhljlihchegjaaGreat
open Go.RowKit Go.Sort Sx
theorem pgo_iff {n d : Int} {l : List Md} : ∀ {k i : Nat}, k = l.length - i → i < l.length → (pgo n d (l.drop i) = true ↔
    (∀ j (h : j < l.length), i ≤ j → mchk l[j] = 0) ∧ (∀ j (h : j + 1 < l.length), i ≤ j → l[j].n * l[j + 1].d < l[j + 1].n * l[j].d) ∧ ∀ j (h : j < l.length), j + 1 = l.length → l[j].n * d ≤ n * l[j].d) := by
  intro k
  induction k with
  | zero => intro i hk hi; omega
  | succ k ih =>
    intro i hk hi
    rcases Nat.lt_or_ge (i + 1) l.length with h | h
    · rw [pgo_mid h, Bool.and_eq_true, decide_eq_true_eq, ih (by omega) h]
      constructor
      · rintro ⟨⟨a1, a2⟩, b1, b2, b3⟩
        refine ⟨fun j hj hij => ?_, fun j hj hij => ?_, b3⟩
        · rcases Nat.eq_or_lt_of_le hij with rfl | h'
          · exact a1
          · exact b1 j hj h'
        · rcases Nat.eq_or_lt_of_le hij with rfl | h'
          · exact a2
          · exact b2 j hj h'
      · rintro ⟨b1, b2, b3⟩
        exact ⟨⟨b1 i hi (Nat.le_refl _), b2 i h (Nat.le_refl _)⟩, fun j hj h' => b1 j hj (by omega), fun j hj h' => b2 j hj (by omega), b3⟩
    · rw [pgo_last hi (by omega), decide_eq_true_eq]
      constructor
      · rintro ⟨a1, a2⟩
        refine ⟨fun j hj hij => ?_, fun j hj hij => by omega, fun j hj hij => ?_⟩
        · have : j = i := by omega
          subst this; exact a1
        · have : j = i := by omega
          subst this; exact a2
      · rintro ⟨b1, b2, b3⟩
        exact ⟨b1 i hi (Nat.le_refl _), b3 i hi (by omega)⟩
theorem pgo_true {n d : Int} {l : List Md} (hl : 0 < l.length) (h1 : ∀ j (h : j < l.length), mchk l[j] = 0) (h2 : ∀ j (h : j + 1 < l.length), l[j].n * l[j + 1].d < l[j + 1].n * l[j].d) (h3 : ∀ j (h : j < l.length), j + 1 = l.length → l[j].n * d ≤ n * l[j].d) : pgo n d l = true := by
  have := (pgo_iff (n := n) (d := d) (l := l) (i := 0) rfl hl).2 ⟨fun j hj _ => h1 j hj, fun j hj _ => h2 j hj, h3⟩
  rwa [List.drop_zero] at this
end Go.Proofs.YtnhljlihchegjaaGreat

/- The past: comparing, copies, what is great. No conditions. -/
namespace Go.Proofs.YtnhljlihchegjaaGreat
open Go.RowKit Go.Sort Sx
theorem Md.eq_iff {p q : Md} : p = q ↔ (p.n = q.n ∧ p.d = q.d) ∧ p.l = q.l := by
  cases p; cases q; simp [and_assoc]
theorem Pa.eq_iff {p q : Pa} : p = q ↔ (p.n = q.n ∧ p.d = q.d) ∧ p.ms = q.ms := by
  cases p; cases q; simp [and_assoc]
theorem rpSameMoments_fn (a b : List Md) : FnOK Tryz.prog 65 [.one (mos a), .one (mos b)] (.c (.one (bol (decide (a = b))))) := by
  refine fn_ok (by kernel_rfl) ty_ok Tryz.func65 rfl (fun _ _ => Tryz.call65 _ _) rfl ?_
  intro hw
  simp only [WDCs, WDC, WDs] at hw
  have w1 := wd_mos hw.1
  have w2 := wd_mos hw.2.1
  clear hw
  have hl1 : (a.map Md.c).length = a.length := List.length_map ..
  have hl2 : (b.map Md.c).length = b.length := List.length_map ..
  by_cases h0 : a.length = b.length
  · repeat' ((conv => whnf); first | (with_reducible first | refine br_t ?_ | refine br_f ?_ | refine za ?_ | refine zg ?_ | refine zo ?_ | refine zb ?_ | refine zm ?_ | refine zc ?_ | refine ze ?_) | ((with_reducible refine bc_t ?_ ?_); (first | omega | decide)) | ((with_reducible refine bc_f ?_ ?_); (first | omega | decide)) | (with_reducible first | refine bc (fun h => ?_) (fun h => ?_) | refine zt ?_ | refine zf ?_ | refine br_i (fun h => ?_) (fun h => ?_) | refine xi (pv_bool fun _ => nev23 _ _ _ _ _ _ _) ?_) | refine zg ?_ | refine zi ?_)
    refine loop_J (by kernel_rfl) ty_ok (σ := Nat) (fun i => [(5, sV (.int .i64 i))]) (fun _ => []) (fun i => i ≤ a.length ∧ a.take i = b.take i) (fun i => a.length - i) 0 ⟨by omega, rfl⟩ ?_ ?_
    · (conv => whnf); exact zent
    rintro i ⟨hi, hI⟩
    rcases Nat.lt_or_ge i a.length with hlt | hge
    · have hb : i < b.length := by omega
      have he1 := mos_get hlt
      have he2 := mos_get hb
      have H := rfSame_fn a[i].l b[i].l
      by_cases hc : a[i] = b[i]
      · obtain ⟨hq, hq2⟩ := Md.eq_iff.1 hc
        rw [decide_eq_true hq2] at H
        repeat' ((conv => whnf); first | (with_reducible first | refine br_t ?_ | refine br_f ?_ | refine za ?_ | refine zg ?_ | refine zo ?_ | refine zb ?_ | refine zm ?_ | refine zc ?_ | refine ze ?_) | ((with_reducible refine bc_t ?_ ?_); (first | omega | decide)) | ((with_reducible refine bc_f ?_ ?_); (first | omega | decide)) | (with_reducible first | refine bc (fun h => ?_) (fun h => ?_) | refine zt ?_ | refine zf ?_ | refine br_i (fun h => ?_) (fun h => ?_) | refine xi (pv_bool fun _ => nev23 _ _ _ _ _ _ _) ?_) | refine zg ?_ | refine zi ?_)
        all_goals conv => whnf
        refine ⟨i + 1, ⟨by omega, take_succ_eq hI hlt hb hc⟩, ?_, by omega⟩
        (conv => whnf); exact zent
      · rw [decide_eq_false (ne_of_get hlt hb hc)]
        by_cases hq : a[i].n = b[i].n ∧ a[i].d = b[i].d
        · rw [decide_eq_false (fun h => hc (Md.eq_iff.2 ⟨hq, h⟩))] at H
          repeat' ((conv => whnf); first | (with_reducible first | refine br_t ?_ | refine br_f ?_ | refine za ?_ | refine zg ?_ | refine zo ?_ | refine zb ?_ | refine zm ?_ | refine zc ?_ | refine ze ?_) | ((with_reducible refine bc_t ?_ ?_); (first | omega | decide)) | ((with_reducible refine bc_f ?_ ?_); (first | omega | decide)) | (with_reducible first | refine bc (fun h => ?_) (fun h => ?_) | refine zt ?_ | refine zf ?_ | refine br_i (fun h => ?_) (fun h => ?_) | refine xi (pv_bool fun _ => nev23 _ _ _ _ _ _ _) ?_) | refine zg ?_ | refine zi ?_)
          all_goals conv => whnf
          all_goals rfl
        · repeat' ((conv => whnf); first | (with_reducible first | refine br_t ?_ | refine br_f ?_ | refine za ?_ | refine zg ?_ | refine zo ?_ | refine zb ?_ | refine zm ?_ | refine zc ?_ | refine ze ?_) | ((with_reducible refine bc_t ?_ ?_); (first | omega | decide)) | ((with_reducible refine bc_f ?_ ?_); (first | omega | decide)) | (with_reducible first | refine bc (fun h => ?_) (fun h => ?_) | refine zt ?_ | refine zf ?_ | refine br_i (fun h => ?_) (fun h => ?_) | refine xi (pv_bool fun _ => nev23 _ _ _ _ _ _ _) ?_) | refine zg ?_ | refine zi ?_)
          all_goals conv => whnf
          all_goals rfl
    · rw [decide_eq_true (take_all_eq hI h0 hge)]
      repeat' ((conv => whnf); first | (with_reducible first | refine br_t ?_ | refine br_f ?_ | refine za ?_ | refine zg ?_ | refine zo ?_ | refine zb ?_ | refine zm ?_ | refine zc ?_ | refine ze ?_) | ((with_reducible refine bc_t ?_ ?_); (first | omega | decide)) | ((with_reducible refine bc_f ?_ ?_); (first | omega | decide)) | (with_reducible first | refine bc (fun h => ?_) (fun h => ?_) | refine zt ?_ | refine zf ?_ | refine br_i (fun h => ?_) (fun h => ?_) | refine xi (pv_bool fun _ => nev23 _ _ _ _ _ _ _) ?_) | refine zg ?_ | refine zi ?_)
      all_goals conv => whnf
      all_goals rfl
  · rw [decide_eq_false (fun h => h0 (congrArg List.length h))]
    repeat' ((conv => whnf); first | (with_reducible first | refine br_t ?_ | refine br_f ?_ | refine za ?_ | refine zg ?_ | refine zo ?_ | refine zb ?_ | refine zm ?_ | refine zc ?_ | refine ze ?_) | ((with_reducible refine bc_t ?_ ?_); (first | omega | decide)) | ((with_reducible refine bc_f ?_ ?_); (first | omega | decide)) | (with_reducible first | refine bc (fun h => ?_) (fun h => ?_) | refine zt ?_ | refine zf ?_ | refine br_i (fun h => ?_) (fun h => ?_) | refine xi (pv_bool fun _ => nev23 _ _ _ _ _ _ _) ?_) | refine zg ?_ | refine zi ?_)
    all_goals conv => whnf
    all_goals rfl
theorem rpSame_fn (p q : Pa) : FnOK Tryz.prog 48 [p.dc, q.dc] (.c (.one (bol (decide (p = q))))) := by
  refine fn_ok (by kernel_rfl) ty_ok Tryz.func48 rfl (fun _ _ => Tryz.call48 _ _) rfl ?_
  intro hw
  clear hw
  have H := rpSameMoments_fn p.ms q.ms
  rw [show decide (p = q) = decide ((p.n = q.n ∧ p.d = q.d) ∧ p.ms = q.ms) from decide_eq_decide.2 Pa.eq_iff]
  by_cases h : p.n = q.n ∧ p.d = q.d
  all_goals
    cases hz : decide (p.ms = q.ms)
    all_goals
      rw [hz] at H
      repeat' ((conv => whnf); first | (with_reducible first | refine br_t ?_ | refine br_f ?_ | refine za ?_ | refine zg ?_ | refine zo ?_ | refine zb ?_ | refine zm ?_ | refine zc ?_ | refine ze ?_) | ((with_reducible refine bc_t ?_ ?_); (first | omega | decide)) | ((with_reducible refine bc_f ?_ ?_); (first | omega | decide)) | (with_reducible first | refine bc (fun h => ?_) (fun h => ?_) | refine zt ?_ | refine zf ?_ | refine br_i (fun h => ?_) (fun h => ?_) | refine xi (pv_bool fun _ => eqv23 _ _ _ _ _ _ _) ?_) | refine zg ?_ | refine zi ?_)
      all_goals conv => whnf
      all_goals simp at hz
      all_goals simp [h, hz]
end Go.Proofs.YtnhljlihchegjaaGreat

/- The past: New and Go. No conditions. -/
namespace Go.Proofs.YtnhljlihchegjaaGreat
open Go.RowKit Go.Sort Sx
abbrev retP (x : Pa × Int) : DV := .tup [x.1.dc, .one (i64 x.2)]
def pNewV (m : Md) : Pa × Int := if mchk m = 0 then (⟨m.n, m.d, [m]⟩, 0) else (⟨0, 0, []⟩, 8)
theorem mchk_len {m : Md} (h : mchk m = 0) : m.l.length ≤ 64 := (fchk_ok (mchk_ok h).2).1
theorem pNew_fn (m : Md) : FnOK Tryz.prog 61 [m.dc] (retP (pNewV m)) := by
  refine fn_ok (by kernel_rfl) ty_ok Tryz.func61 rfl (fun _ _ => Tryz.call61 _ _) rfl ?_
  intro hw
  clear hw
  have H := oCheck_fn m
  unfold pNewV
  by_cases h : mchk m = 0
  · rw [if_pos h]
    rw [h] at H
    have H2 := pcopied_fn m.l (by have := mchk_len h; omega)
    exact zw
  · rw [if_neg h]
    have h8 : mchk m = 8 := (mchk_08 m).resolve_left h
    rw [h8] at H
    exact zw
def Pa.last (p : Pa) : Md := p.ms[p.ms.length - 1]?.getD default
def pGoV (p : Pa) (m : Md) : Pa × Int :=
  if pchk p = 0 then (if mchk m = 0 then (if m.n * p.d < p.n * m.d then (⟨0, 0, []⟩, 44) else
    if p.last.l = m.l then (⟨m.n, m.d, p.ms⟩, 0) else if p.last.n = m.n ∧ p.last.d = m.d then (⟨m.n, m.d, p.ms.set (p.ms.length - 1) m⟩, 0) else if p.ms.length = 40 then (⟨0, 0, []⟩, 18) else (⟨m.n, m.d, p.ms ++ [m]⟩, 0))
    else (⟨0, 0, []⟩, 8)) else (⟨0, 0, []⟩, 8)
theorem pchk_ok {p : Pa} (h : pchk p = 0) : 1 ≤ p.ms.length ∧ p.ms.length ≤ 40 ∧ askd p.n p.d = 0 ∧ pgo p.n p.d p.ms = true ∧ ∀ m ∈ p.ms, mchk m = 0 := by
  unfold pchk at h
  split at h
  · rename_i h1
    obtain ⟨h1, h2, h3, h4⟩ := h1
    have := (pgo_iff (n := p.n) (d := p.d) (l := p.ms) (i := 0) rfl (by omega)).1 (by rw [List.drop_zero]; exact h4)
    refine ⟨h1, h2, h3, h4, fun m hm => ?_⟩
    obtain ⟨i, hi, rfl⟩ := List.getElem_of_mem hm
    exact this.1 i hi (Nat.zero_le _)
  · omega
set_option maxHeartbeats 4000000 in
theorem pGo_fn (p : Pa) (m : Md) : FnOK Tryz.prog 52 [p.dc, m.dc] (retP (pGoV p m)) := by
  have H1 := pCheck_fn p
  have H2 := oCheck_fn m
  unfold pGoV
  by_cases h1 : pchk p = 0
  · rw [if_pos h1]
    rw [h1] at H1
    by_cases h2 : mchk m = 0
    · rw [if_pos h2]
      rw [h2] at H2
      obtain ⟨k1, k2, k3, k4, k5⟩ := pchk_ok h1
      have H3 := cmp_chk (askd_chk (mchk_ok h2).1) (askd_chk k3)
      by_cases h3 : m.n * p.d < p.n * m.d
      · rw [if_pos h3]
        have e3 : cmpN (m.n * p.d) (p.n * m.d) = -1 := if_pos h3
        rw [e3] at H3
        refine fn_ok (by kernel_rfl) ty_ok Tryz.func52 rfl (fun _ _ => Tryz.call52 _ _) rfl ?_
        intro hw
        clear hw h3 e3
        repeat' ((conv => whnf); first | (with_reducible first | refine br_t ?_ | refine br_f ?_ | refine za ?_ | refine zg ?_ | refine zo ?_ | refine zb ?_ | refine zm ?_ | refine zc ?_ | refine ze ?_) | ((with_reducible refine bc_t ?_ ?_); (first | omega | decide)) | ((with_reducible refine bc_f ?_ ?_); (first | omega | decide)) | (with_reducible first | refine bc (fun h => ?_) (fun h => ?_) | refine zt ?_ | refine zf ?_ | refine br_i (fun h => ?_) (fun h => ?_) | refine xi (pv_bool fun _ => eqv23 _ _ _ _ _ _ _) ?_) | refine zg ?_ | refine zi ?_)
        all_goals conv => whnf
        all_goals rfl
      · rw [if_neg h3]
        have e3 : 0 ≤ cmpN (m.n * p.d) (p.n * m.d) := by unfold cmpN; rw [if_neg h3]; split <;> omega
        generalize cmpN (m.n * p.d) (p.n * m.d) = z at H3 e3
        clear h3 h1
        obtain ⟨n, d, l⟩ := p
        have k5 : ∀ m ∈ l, mchk m = 0 := k5
        have hln : (l.map Md.c).length = l.length := List.length_map ..
        simp only at k1 k2
        have hlast : (⟨n, d, l⟩ : Pa).last = l[l.length - 1] := by unfold Pa.last; simp only; rw [List.getElem?_eq_getElem (by omega)]; rfl
        rw [hlast]
        have H4 := pcopied_fn m.l (by have := mchk_len h2; omega)
        have H5 := psame_fn l[l.length - 1].l m.l
        have ew : IntKind.i64.wrap ((l.length : Int) - 1) = ((l.length - 1 : Nat) : Int) := by rw [IntWalk.i64_in _ (by omega)]; omega
        show FnOK _ _ [.agg [i64 n, i64 d, mos l], .agg [i64 m.n, i64 m.d, pts m.l]] _
        simp only [Md.dc, Pa.dc] at H1 H2
        refine fn_ok (by kernel_rfl) (ty_okK [56, 75] [] [] []) Tryz.func52 rfl (fun _ _ => Tryz.call52 _ _) rfl ?_
        intro hw
        clear hw
        repeat' ((conv => whnf); first | (with_reducible first | refine br_t ?_ | refine br_f ?_ | refine za ?_ | refine zg ?_ | refine zo ?_ | refine zb ?_ | refine zm ?_ | refine zc ?_ | refine ze ?_) | ((with_reducible refine bc_t ?_ ?_); (first | omega | decide)) | ((with_reducible refine bc_f ?_ ?_); (first | omega | decide)) | (with_reducible first | refine bc (fun h => ?_) (fun h => ?_) | refine zt ?_ | refine zf ?_ | refine br_i (fun h => ?_) (fun h => ?_) | refine xi (pv_bool fun _ => eqv23 _ _ _ _ _ _ _) ?_) | refine zg ?_ | refine zi ?_)
        refine loop_nameH 10 2 100 rfl rfl rfl ?_
        refine loop_J (by kernel_rfl) (ty_okK [56, 75] [] [] []) (σ := Nat) (fun i => [(43, sV (.int .i64 i))]) (fun i => [(10, .own [.d (i64 m.n), .d (i64 m.d), .osl 100 0]), (100, .row 3 ((l.take i).map Md.c) 0)]) (fun i => i ≤ l.length) (fun i => l.length - i) 0 (Nat.zero_le _) ?_ ?_
        · (conv => whnf); exact zent
        intro i hi
        rcases Nat.lt_or_ge i l.length with hlt | hge
        · have he1 := mos_get hlt
          have H := pcopied_fn l[i].l (by have := mchk_len (k5 _ (List.getElem_mem hlt)); omega)
          have ha : (l.take i).map Md.c ++ [l[i].mo] = (l.take (i + 1)).map Md.c := by
            rw [List.take_succ_eq_append_getElem hlt, List.map_append]; rfl
          have hlt2 : ((l.take i).map Md.c).length = i := by simp; omega
          repeat' ((conv => whnf); first | (with_reducible first | refine br_t ?_ | refine br_f ?_ | refine za ?_ | refine zg ?_ | refine zo ?_ | refine zb ?_ | refine zm ?_ | refine zc ?_ | refine ze ?_) | ((with_reducible refine bc_t ?_ ?_); (first | omega | decide)) | ((with_reducible refine bc_f ?_ ?_); (first | omega | decide)) | (with_reducible first | refine bc (fun h => ?_) (fun h => ?_) | refine zt ?_ | refine zf ?_ | refine br_i (fun h => ?_) (fun h => ?_) | refine xi (pv_bool fun _ => eqv23 _ _ _ _ _ _ _) ?_) | refine zg ?_ | refine zi ?_)
          all_goals conv => whnf
          refine ⟨i + 1, by omega, ?_, by omega⟩
          (conv => whnf); refine ⟨by repeat' (first | with_reducible exact zE0 | with_reducible refine zE1 ?_ ?_ | rfl | assumption | (exact congrArg (fun x => some (Blk.row 3 x 0)) ha) | (refine ent_i ?_; (first | omega | (rw [IntWalk.i64_in _ (by omega)]; omega) | (simp; done))) | (refine ent_b ?_; (first | omega | (rw [IntWalk.i64_in _ (by omega)]; omega) | (simp; done)))), by repeat' (first | with_reducible exact zH0 | with_reducible refine zH1 ?_ ?_ | rfl | assumption | (exact congrArg (fun x => some (Blk.row 3 x 0)) ha)), rfl⟩
        · rw [List.take_of_length_le hge]
          have hl1 : l.length - 1 < l.length := by omega
          have he1 := mos_get' (l := l) (i := l.length - 1) (j := IntKind.i64.wrap ((l.length : Int) - 1)) hl1 (by rw [ew]; omega)
          by_cases c1 : l[l.length - 1].l = m.l
          · rw [decide_eq_true c1] at H5
            rw [if_pos c1]
            clear c1
            repeat' ((conv => whnf); first | (with_reducible first | refine br_t ?_ | refine br_f ?_ | refine za ?_ | refine zg ?_ | refine zo ?_ | refine zb ?_ | refine zm ?_ | refine zc ?_ | refine ze ?_) | rw [hln] | ((with_reducible refine bc_t ?_ ?_); (first | omega | decide)) | ((with_reducible refine bc_f ?_ ?_); (first | omega | decide)) | (with_reducible first | refine bc (fun h => ?_) (fun h => ?_) | refine zt ?_ | refine zf ?_ | refine br_i (fun h => ?_) (fun h => ?_) | refine xi (pv_bool fun _ => eqv23 _ _ _ _ _ _ _) ?_) | refine zg ?_ | refine zi ?_)
            all_goals conv => whnf
            all_goals rfl
          · rw [decide_eq_false c1] at H5
            rw [if_neg c1]
            clear c1
            by_cases c2 : l[l.length - 1].n = m.n ∧ l[l.length - 1].d = m.d
            · rw [if_pos c2]
              have hset : (l.map Md.c).set (IntKind.i64.wrap ((l.length : Int) - 1)).toNat [i64 l[l.length - 1].n, i64 l[l.length - 1].d, pts m.l] = (l.set (l.length - 1) m).map Md.c := by
                rw [ew, Int.toNat_natCast, List.map_set, c2.1, c2.2]; rfl
              repeat' ((conv => whnf); first | (with_reducible first | refine br_t ?_ | refine br_f ?_ | refine za ?_ | refine zg ?_ | refine zo ?_ | refine zb ?_ | refine zm ?_ | refine zc ?_ | refine ze ?_) | rw [hln] | ((with_reducible refine bc_t ?_ ?_); (first | omega | decide)) | ((with_reducible refine bc_f ?_ ?_); (first | omega | decide)) | (with_reducible first | refine bc (fun h => ?_) (fun h => ?_) | refine zt ?_ | refine zf ?_ | refine br_i (fun h => ?_) (fun h => ?_) | refine xi (pv_bool fun _ => eqv23 _ _ _ _ _ _ _) ?_) | refine zg ?_ | refine zi ?_)
              all_goals conv => whnf
              all_goals exact congrArg (fun x => DV.tup [.agg [i64 m.n, i64 m.d, .list 3 x], .one (i64 0)]) hset
            · rw [if_neg c2]
              by_cases c3 : l.length = 40
              · rw [if_pos c3]
                repeat' ((conv => whnf); first | (with_reducible first | refine br_t ?_ | refine br_f ?_ | refine za ?_ | refine zg ?_ | refine zo ?_ | refine zb ?_ | refine zm ?_ | refine zc ?_ | refine ze ?_) | rw [hln] | ((with_reducible refine bc_t ?_ ?_); (first | omega | decide)) | ((with_reducible refine bc_f ?_ ?_); (first | omega | decide)) | (with_reducible first | refine bc (fun h => ?_) (fun h => ?_) | refine zt ?_ | refine zf ?_ | refine br_i (fun h => ?_) (fun h => ?_) | refine xi (pv_bool fun _ => eqv23 _ _ _ _ _ _ _) ?_) | refine zg ?_ | refine zi ?_)
                all_goals conv => whnf
                all_goals rfl
              · rw [if_neg c3]
                have ha : l.map Md.c ++ [m.mo] = (l ++ [m]).map Md.c := by rw [List.map_append]; rfl
                repeat' ((conv => whnf); first | (with_reducible first | refine br_t ?_ | refine br_f ?_ | refine za ?_ | refine zg ?_ | refine zo ?_ | refine zb ?_ | refine zm ?_ | refine zc ?_ | refine ze ?_) | rw [hln] | ((with_reducible refine bc_t ?_ ?_); (first | omega | decide)) | ((with_reducible refine bc_f ?_ ?_); (first | omega | decide)) | (with_reducible first | refine bc (fun h => ?_) (fun h => ?_) | refine zt ?_ | refine zf ?_ | refine br_i (fun h => ?_) (fun h => ?_) | refine xi (pv_bool fun _ => eqv23 _ _ _ _ _ _ _) ?_) | refine zg ?_ | refine zi ?_)
                all_goals conv => whnf
                all_goals exact congrArg (fun x => DV.tup [.agg [i64 m.n, i64 m.d, .list 3 x], .one (i64 0)]) ha
    · rw [if_neg h2]
      have h8 : mchk m = 8 := (mchk_08 m).resolve_left h2
      rw [h8] at H2
      refine fn_ok (by kernel_rfl) ty_ok Tryz.func52 rfl (fun _ _ => Tryz.call52 _ _) rfl ?_
      intro hw
      clear hw
      repeat' ((conv => whnf); first | (with_reducible first | refine br_t ?_ | refine br_f ?_ | refine za ?_ | refine zg ?_ | refine zo ?_ | refine zb ?_ | refine zm ?_ | refine zc ?_ | refine ze ?_) | ((with_reducible refine bc_t ?_ ?_); (first | omega | decide)) | ((with_reducible refine bc_f ?_ ?_); (first | omega | decide)) | (with_reducible first | refine bc (fun h => ?_) (fun h => ?_) | refine zt ?_ | refine zf ?_ | refine br_i (fun h => ?_) (fun h => ?_) | refine xi (pv_bool fun _ => eqv23 _ _ _ _ _ _ _) ?_) | refine zg ?_ | refine zi ?_)
      all_goals conv => whnf
      all_goals rfl
  · rw [if_neg h1]
    have h8 : pchk p = 8 := (pchk_08 p).resolve_left h1
    rw [h8] at H1
    refine fn_ok (by kernel_rfl) ty_ok Tryz.func52 rfl (fun _ _ => Tryz.call52 _ _) rfl ?_
    intro hw
    clear hw
    repeat' ((conv => whnf); first | (with_reducible first | refine br_t ?_ | refine br_f ?_ | refine za ?_ | refine zg ?_ | refine zo ?_ | refine zb ?_ | refine zm ?_ | refine zc ?_ | refine ze ?_) | ((with_reducible refine bc_t ?_ ?_); (first | omega | decide)) | ((with_reducible refine bc_f ?_ ?_); (first | omega | decide)) | (with_reducible first | refine bc (fun h => ?_) (fun h => ?_) | refine zt ?_ | refine zf ?_ | refine br_i (fun h => ?_) (fun h => ?_) | refine xi (pv_bool fun _ => eqv23 _ _ _ _ _ _ _) ?_) | refine zg ?_ | refine zi ?_)
    all_goals conv => whnf
    all_goals rfl
end Go.Proofs.YtnhljlihchegjaaGreat

/-
  DERIVED: THE SHELF's CONTRACTS AT THIS DUMP, IN PLAIN WORDS (tools/lay-plain.mjs out of 'TryzSrt.lean', which tools/lay-shelf.mjs wrote): THE SAME DECLARATIONS UNDER THE SAME NAMES: 'import', 'namespace', 'open', 'def', 'theorem' AND NOTHING ELSE: no command of the shelf's: FOR A HAND-IN. Each laying: the table of numbers ('.._ren') and one theorem, a field a fact of the dump's own or the kernel's comparison; each contract: ONE APPLICATION.
-/
namespace Go.Proofs
open Go.Shelf
def Tryz.sortPt_ren : Go.Shelf.Ren := ⟨fun | 6 => 119 | 15 => 151 | 14 => 150 | 28 => 182 | 29 => 157 | 20 => 174 | 21 => 175 | 22 => 176 | 23 => 177 | 24 => 178 | 25 => 179 | 26 => 180 | 27 => 181 | 46 => 192 | 47 => 193 | 48 => 194 | 49 => 195 | 50 => 196 | 57 => 207 | n => n, fun | 22 => 24 | 24 => 30 | 25 => 183 | 3 => 3 | 39 => 189 | 0 => 0 | 53 => 242 | 55 => 133 | 4 => 4 | 46 => 236 | 45 => 235 | 50 => 157 | 5 => 5 | 9 => 9 | 66 => 250 | 70 => 254 | 76 => 263 | 77 => 264 | n => n, fun | n => n⟩
theorem Tryz.sortPt : Go.Proofs.SlLaysF0.n6 Tryz.prog Tryz.sortPt_ren := {
  mixed := by kernel_rfl
  f6 := ⟨Tryz.f119.name, by decide, Tryz.func119.trans (congrArg some (by kernel_rfl))⟩
  f14 := ⟨Tryz.f150.name, by decide, Tryz.func150.trans (congrArg some (by kernel_rfl))⟩
  f15 := Tryz.func151.trans (congrArg some (by kernel_rfl))
  f20 := ⟨Tryz.f174.name, by decide, Tryz.func174.trans (congrArg some (by kernel_rfl))⟩
  f21 := ⟨Tryz.f175.name, by decide, Tryz.func175.trans (congrArg some (by kernel_rfl))⟩
  f22 := ⟨Tryz.f176.name, by decide, Tryz.func176.trans (congrArg some (by kernel_rfl))⟩
  f23 := ⟨Tryz.f177.name, by decide, Tryz.func177.trans (congrArg some (by kernel_rfl))⟩
  f24 := ⟨Tryz.f178.name, by decide, Tryz.func178.trans (congrArg some (by kernel_rfl))⟩
  f25 := ⟨Tryz.f179.name, by decide, Tryz.func179.trans (congrArg some (by kernel_rfl))⟩
  f26 := ⟨Tryz.f180.name, by decide, Tryz.func180.trans (congrArg some (by kernel_rfl))⟩
  f27 := ⟨Tryz.f181.name, by decide, Tryz.func181.trans (congrArg some (by kernel_rfl))⟩
  f28 := Tryz.func182.trans (congrArg some (by kernel_rfl))
  f29 := Tryz.func157.trans (congrArg some (by kernel_rfl))
  f46 := ⟨Tryz.f192.name, by decide, Tryz.func192.trans (congrArg some (by kernel_rfl))⟩
  f47 := Tryz.func193.trans (congrArg some (by kernel_rfl))
  f48 := Tryz.func194.trans (congrArg some (by kernel_rfl))
  f49 := ⟨Tryz.f195.name, by decide, Tryz.func195.trans (congrArg some (by kernel_rfl))⟩
  f50 := ⟨Tryz.f196.name, by decide, Tryz.func196.trans (congrArg some (by kernel_rfl))⟩
  f57 := ⟨Tryz.f207.name, by decide, Tryz.func207.trans (congrArg some (by kernel_rfl))⟩
  t0 := Tryz.underlying0
  a0 := Tryz.isAgg0
  z0 := Tryz.sizeOf0
  v0 := Tryz.zeroValue0
  t3 := Tryz.underlying3
  a3 := Tryz.isAgg3
  z3 := Tryz.sizeOf3
  v3 := Tryz.zeroValue3
  t4 := Tryz.underlying4
  a4 := Tryz.isAgg4
  z4 := Tryz.sizeOf4
  v4 := Tryz.zeroValue4
  t5 := Tryz.underlying5
  a5 := Tryz.isAgg5
  z5 := Tryz.sizeOf5
  v5 := Tryz.zeroValue5
  t9 := Tryz.underlying9
  a9 := Tryz.isAgg9
  z9 := Tryz.sizeOf9
  v9 := Tryz.zeroValue9
  t22 := Tryz.underlying24
  a22 := Tryz.isAgg24
  z22 := Tryz.sizeOf24
  v22 := Tryz.zeroValue24
  t25 := Tryz.underlying183
  a25 := Tryz.isAgg183
  z25 := Tryz.sizeOf183
  v25 := Tryz.zeroValue183
  t39 := Tryz.underlying189
  a39 := Tryz.isAgg189
  z39 := Tryz.sizeOf189
  v39 := Tryz.zeroValue189
  t45 := Tryz.underlying235
  a45 := Tryz.isAgg235
  z45 := Tryz.sizeOf235
  v45 := Tryz.zeroValue235
  t46 := Tryz.underlying236
  a46 := Tryz.isAgg236
  z46 := Tryz.sizeOf236
  v46 := Tryz.zeroValue236
  t50 := Tryz.underlying157
  a50 := Tryz.isAgg157
  z50 := Tryz.sizeOf157
  v50 := Tryz.zeroValue157
  t53 := Tryz.underlying242
  a53 := Tryz.isAgg242
  z53 := Tryz.sizeOf242
  v53 := Tryz.zeroValue242
  t55 := Tryz.underlying133
  a55 := Tryz.isAgg133
  z55 := Tryz.sizeOf133
  v55 := Tryz.zeroValue133
  t66 := Tryz.underlying250
  a66 := Tryz.isAgg250
  z66 := Tryz.sizeOf250
  v66 := Tryz.zeroValue250
  t70 := Tryz.underlying254
  a70 := Tryz.isAgg254
  z70 := Tryz.sizeOf254
  v70 := Tryz.zeroValue254
  t76 := Tryz.underlying263
  a76 := Tryz.isAgg263
  z76 := Tryz.sizeOf263
  v76 := Tryz.zeroValue263
  t77 := Tryz.underlying264
  a77 := Tryz.isAgg264
  z77 := Tryz.sizeOf264
  v77 := Tryz.zeroValue264 }
def Tryz.sortMt_ren : Go.Shelf.Ren := ⟨fun | 6 => 164 | 15 => 151 | 14 => 188 | 28 => 182 | 29 => 157 | 20 => 198 | 21 => 199 | 22 => 200 | 23 => 201 | 24 => 202 | 25 => 203 | 26 => 204 | 27 => 205 | 46 => 208 | 47 => 193 | 48 => 194 | 49 => 209 | 50 => 210 | 57 => 211 | n => n, fun | 22 => 40 | 24 => 128 | 25 => 227 | 3 => 3 | 39 => 189 | 0 => 0 | 53 => 242 | 55 => 133 | 4 => 4 | 46 => 236 | 45 => 235 | 50 => 157 | 5 => 5 | 9 => 9 | 66 => 250 | 70 => 254 | 76 => 263 | 77 => 264 | n => n, fun | n => n⟩
theorem Tryz.sortMt : Go.Proofs.SlLaysF0.n6 Tryz.prog Tryz.sortMt_ren := {
  mixed := by kernel_rfl
  f6 := ⟨Tryz.f164.name, by decide, Tryz.func164.trans (congrArg some (by kernel_rfl))⟩
  f14 := ⟨Tryz.f188.name, by decide, Tryz.func188.trans (congrArg some (by kernel_rfl))⟩
  f15 := Tryz.func151.trans (congrArg some (by kernel_rfl))
  f20 := ⟨Tryz.f198.name, by decide, Tryz.func198.trans (congrArg some (by kernel_rfl))⟩
  f21 := ⟨Tryz.f199.name, by decide, Tryz.func199.trans (congrArg some (by kernel_rfl))⟩
  f22 := ⟨Tryz.f200.name, by decide, Tryz.func200.trans (congrArg some (by kernel_rfl))⟩
  f23 := ⟨Tryz.f201.name, by decide, Tryz.func201.trans (congrArg some (by kernel_rfl))⟩
  f24 := ⟨Tryz.f202.name, by decide, Tryz.func202.trans (congrArg some (by kernel_rfl))⟩
  f25 := ⟨Tryz.f203.name, by decide, Tryz.func203.trans (congrArg some (by kernel_rfl))⟩
  f26 := ⟨Tryz.f204.name, by decide, Tryz.func204.trans (congrArg some (by kernel_rfl))⟩
  f27 := ⟨Tryz.f205.name, by decide, Tryz.func205.trans (congrArg some (by kernel_rfl))⟩
  f28 := Tryz.func182.trans (congrArg some (by kernel_rfl))
  f29 := Tryz.func157.trans (congrArg some (by kernel_rfl))
  f46 := ⟨Tryz.f208.name, by decide, Tryz.func208.trans (congrArg some (by kernel_rfl))⟩
  f47 := Tryz.func193.trans (congrArg some (by kernel_rfl))
  f48 := Tryz.func194.trans (congrArg some (by kernel_rfl))
  f49 := ⟨Tryz.f209.name, by decide, Tryz.func209.trans (congrArg some (by kernel_rfl))⟩
  f50 := ⟨Tryz.f210.name, by decide, Tryz.func210.trans (congrArg some (by kernel_rfl))⟩
  f57 := ⟨Tryz.f211.name, by decide, Tryz.func211.trans (congrArg some (by kernel_rfl))⟩
  t0 := Tryz.underlying0
  a0 := Tryz.isAgg0
  z0 := Tryz.sizeOf0
  v0 := Tryz.zeroValue0
  t3 := Tryz.underlying3
  a3 := Tryz.isAgg3
  z3 := Tryz.sizeOf3
  v3 := Tryz.zeroValue3
  t4 := Tryz.underlying4
  a4 := Tryz.isAgg4
  z4 := Tryz.sizeOf4
  v4 := Tryz.zeroValue4
  t5 := Tryz.underlying5
  a5 := Tryz.isAgg5
  z5 := Tryz.sizeOf5
  v5 := Tryz.zeroValue5
  t9 := Tryz.underlying9
  a9 := Tryz.isAgg9
  z9 := Tryz.sizeOf9
  v9 := Tryz.zeroValue9
  t22 := Tryz.underlying40
  a22 := Tryz.isAgg40
  z22 := Tryz.sizeOf40
  v22 := Tryz.zeroValue40
  t25 := Tryz.underlying227
  a25 := Tryz.isAgg227
  z25 := Tryz.sizeOf227
  v25 := Tryz.zeroValue227
  t39 := Tryz.underlying189
  a39 := Tryz.isAgg189
  z39 := Tryz.sizeOf189
  v39 := Tryz.zeroValue189
  t45 := Tryz.underlying235
  a45 := Tryz.isAgg235
  z45 := Tryz.sizeOf235
  v45 := Tryz.zeroValue235
  t46 := Tryz.underlying236
  a46 := Tryz.isAgg236
  z46 := Tryz.sizeOf236
  v46 := Tryz.zeroValue236
  t50 := Tryz.underlying157
  a50 := Tryz.isAgg157
  z50 := Tryz.sizeOf157
  v50 := Tryz.zeroValue157
  t53 := Tryz.underlying242
  a53 := Tryz.isAgg242
  z53 := Tryz.sizeOf242
  v53 := Tryz.zeroValue242
  t55 := Tryz.underlying133
  a55 := Tryz.isAgg133
  z55 := Tryz.sizeOf133
  v55 := Tryz.zeroValue133
  t66 := Tryz.underlying250
  a66 := Tryz.isAgg250
  z66 := Tryz.sizeOf250
  v66 := Tryz.zeroValue250
  t70 := Tryz.underlying254
  a70 := Tryz.isAgg254
  z70 := Tryz.sizeOf254
  v70 := Tryz.zeroValue254
  t76 := Tryz.underlying263
  a76 := Tryz.isAgg263
  z76 := Tryz.sizeOf263
  v76 := Tryz.zeroValue263
  t77 := Tryz.underlying264
  a77 := Tryz.isAgg264
  z77 := Tryz.sizeOf264
  v77 := Tryz.zeroValue264 }
end Go.Proofs
