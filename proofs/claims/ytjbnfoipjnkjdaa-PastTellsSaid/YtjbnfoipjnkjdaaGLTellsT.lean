import Derived.Test.YtjbnfoipjnkjdaaGLTellsS
import Derived.Test.YtjbnfoipjnkjdaaGLTellsR
set_option linter.all false



/- Fields: leader, order, finding, the reference's. No conditions. -/
namespace Go.Proofs.Ytjbnfoipjnkjdaa
open Go Go.RowKit Go.Sort Sx
theorem rfTimed_fn (l : List Pt) (n m : Int) : FnOK Try.prog 63 [fld l, rat n m] (ret1 (tchk l n m)) := by
  refine fn_ok (by kernel_rfl) ty_ok Try.func63 rfl (fun _ _ => Try.call63 _ _) rfl ?_
  intro hw
  clear hw
  have H1 := rfCheck_fn l
  have H2 := rcheck_fn n m
  unfold tchk
  generalize fchk l = z at *
  by_cases h : z = 0
  all_goals
    repeat' ((conv => whnf); first | (with_reducible first | refine br_t ?_ | refine br_f ?_ | refine xa (by assumption) ?_ | refine xg (by assumption) rfl ?_ | refine xo (by assumption) ?_ | refine xb (by assumption) rfl ?_ | refine xm (by assumption) ?_ | refine xc (by assumption) ?_) | ((with_reducible refine bc_t ?_ ?_); (first | omega | decide)) | ((with_reducible refine bc_f ?_ ?_); (first | omega | decide)) | (with_reducible first | refine bc (fun h => ?_) (fun h => ?_) | refine br_t' (by assumption) ?_ | refine br_f' (by assumption) ?_ | refine br_i (fun h => ?_) (fun h => ?_)) | refine xg (by assumption) rfl ?_ | refine And.intro (by first | kernel_rfl | omega | (simp only [List.length_append, List.length_cons, List.length_nil, List.length_map, List.length_take, List.length_replicate]; omega) | decide) ?_)
    all_goals conv => whnf
    all_goals simp [h]
theorem tchk_ok {l : List Pt} {n m : Int} (h : tchk l n m = 0) : fchk l = 0 ∧ chk n m = 0 := by
  unfold tchk at h
  split at h
  · exact ⟨by assumption, h⟩
  · omega
theorem ints_get {l : List Int} {i : Nat} (h : i < l.length) : (l.map fun i => [i64 i])[((i : Nat) : Int).toNat]? = some [i64 l[i]] := by
  rw [Int.toNat_natCast, List.getElem?_map, List.getElem?_eq_getElem h]; rfl
theorem rfLeader_fn (l : List Pt) (n m : Int) : FnOK Try.prog 42 [fld l, rat n m] (ret2 (leadV l n m)) := by
  refine fn_ok (by kernel_rfl) ty_ok Try.func42 rfl (fun _ _ => Try.call42 _ _) rfl ?_
  intro hw
  clear hw
  have H := rfTimed_fn l n m
  unfold leadV
  by_cases h : tchk l n m = 0
  · rw [if_pos h]
    rw [h] at H
    by_cases h0 : l.length = 0
    · rw [if_pos h0]
      repeat' ((conv => whnf); first | (with_reducible first | refine br_t ?_ | refine br_f ?_ | refine xa (by assumption) ?_ | refine xg (by assumption) rfl ?_ | refine xo (by assumption) ?_ | refine xb (by assumption) rfl ?_ | refine xm (by assumption) ?_ | refine xc (by assumption) ?_) | rw [List.length_map] | ((with_reducible refine bc_t ?_ ?_); (first | omega | decide)) | ((with_reducible refine bc_f ?_ ?_); (first | omega | decide)) | (with_reducible first | refine bc (fun h => ?_) (fun h => ?_) | refine br_t' (by assumption) ?_ | refine br_f' (by assumption) ?_ | refine br_i (fun h => ?_) (fun h => ?_)) | refine xg (by assumption) rfl ?_ | refine And.intro (by first | kernel_rfl | omega | (simp only [List.length_append, List.length_cons, List.length_nil, List.length_map, List.length_take, List.length_replicate]; omega) | decide) ?_)
      all_goals conv => whnf
      all_goals rfl
    · rw [if_neg h0]
      obtain ⟨k1, k2, k3⟩ := fchk_ok (tchk_ok h).1
      have H2 := rfOrdered_fn (n := n) (m := m) k2 k3 (by omega)
      have hlt : 0 < (srt n m l).length := by rw [srt_len]; omega
      have hlt2 : 0 < (ordV l n m).length := by unfold ordV; rw [List.length_map]; exact hlt
      have hel := ints_get hlt2
      have e : (ordV l n m)[0] = ((srt n m l)[0]?.getD default).id := by rw [List.getElem?_eq_getElem hlt]; simp [ordV]
      rw [e] at hel
      repeat' ((conv => whnf); first | (with_reducible first | refine br_t ?_ | refine br_f ?_ | refine xa (by assumption) ?_ | refine xg (by assumption) rfl ?_ | refine xo (by assumption) ?_ | refine xb (by assumption) rfl ?_ | refine xm (by assumption) ?_ | refine xc (by assumption) ?_) | rw [List.length_map] | ((with_reducible refine bc_t ?_ ?_); (first | omega | decide)) | ((with_reducible refine bc_f ?_ ?_); (first | omega | decide)) | (with_reducible first | refine bc (fun h => ?_) (fun h => ?_) | refine br_t' (by assumption) ?_ | refine br_f' (by assumption) ?_ | refine br_i (fun h => ?_) (fun h => ?_)) | refine xg (by assumption) rfl ?_ | refine And.intro (by first | kernel_rfl | omega | (simp only [List.length_append, List.length_cons, List.length_nil, List.length_map, List.length_take, List.length_replicate]; omega) | decide) ?_)
      all_goals conv => whnf
      all_goals rfl
  · rw [if_neg h]
    generalize tchk l n m = z at *
    repeat' ((conv => whnf); first | (with_reducible first | refine br_t ?_ | refine br_f ?_ | refine xa (by assumption) ?_ | refine xg (by assumption) rfl ?_ | refine xo (by assumption) ?_ | refine xb (by assumption) rfl ?_ | refine xm (by assumption) ?_ | refine xc (by assumption) ?_) | ((with_reducible refine bc_t ?_ ?_); (first | omega | decide)) | ((with_reducible refine bc_f ?_ ?_); (first | omega | decide)) | (with_reducible first | refine bc (fun h => ?_) (fun h => ?_) | refine br_t' (by assumption) ?_ | refine br_f' (by assumption) ?_ | refine br_i (fun h => ?_) (fun h => ?_)) | refine xg (by assumption) rfl ?_ | refine And.intro (by first | kernel_rfl | omega | (simp only [List.length_append, List.length_cons, List.length_nil, List.length_map, List.length_take, List.length_replicate]; omega) | decide) ?_)
    all_goals conv => whnf
    all_goals rfl
def orderV (l : List Pt) (n m : Int) : List Int × Int := if tchk l n m = 0 then (ordV l n m, 0) else ([], tchk l n m)
abbrev retO (x : List Int × Int) : DV := .tup [.one (ints x.1), .one (i64 x.2)]
theorem rfOrder_fn (l : List Pt) (n m : Int) : FnOK Try.prog 44 [fld l, rat n m] (retO (orderV l n m)) := by
  refine fn_ok (by kernel_rfl) ty_ok Try.func44 rfl (fun _ _ => Try.call44 _ _) rfl ?_
  intro hw
  clear hw
  have H := rfTimed_fn l n m
  unfold orderV
  by_cases h : tchk l n m = 0
  · rw [if_pos h]
    rw [h] at H
    obtain ⟨k1, k2, k3⟩ := fchk_ok (tchk_ok h).1
    have H2 := rfOrdered_fn (n := n) (m := m) k2 k3 (by omega)
    repeat' ((conv => whnf); first | (with_reducible first | refine br_t ?_ | refine br_f ?_ | refine xa (by assumption) ?_ | refine xg (by assumption) rfl ?_ | refine xo (by assumption) ?_ | refine xb (by assumption) rfl ?_ | refine xm (by assumption) ?_ | refine xc (by assumption) ?_) | rw [List.length_map] | ((with_reducible refine bc_t ?_ ?_); (first | omega | decide)) | ((with_reducible refine bc_f ?_ ?_); (first | omega | decide)) | (with_reducible first | refine bc (fun h => ?_) (fun h => ?_) | refine br_t' (by assumption) ?_ | refine br_f' (by assumption) ?_ | refine br_i (fun h => ?_) (fun h => ?_)) | refine xg (by assumption) rfl ?_ | refine And.intro (by first | kernel_rfl | omega | (simp only [List.length_append, List.length_cons, List.length_nil, List.length_map, List.length_take, List.length_replicate]; omega) | decide) ?_)
    all_goals conv => whnf
    all_goals rfl
  · rw [if_neg h]
    generalize tchk l n m = z at *
    repeat' ((conv => whnf); first | (with_reducible first | refine br_t ?_ | refine br_f ?_ | refine xa (by assumption) ?_ | refine xg (by assumption) rfl ?_ | refine xo (by assumption) ?_ | refine xb (by assumption) rfl ?_ | refine xm (by assumption) ?_ | refine xc (by assumption) ?_) | ((with_reducible refine bc_t ?_ ?_); (first | omega | decide)) | ((with_reducible refine bc_f ?_ ?_); (first | omega | decide)) | (with_reducible first | refine bc (fun h => ?_) (fun h => ?_) | refine br_t' (by assumption) ?_ | refine br_f' (by assumption) ?_ | refine br_i (fun h => ?_) (fun h => ?_)) | refine xg (by assumption) rfl ?_ | refine And.intro (by first | kernel_rfl | omega | (simp only [List.length_append, List.length_cons, List.length_nil, List.length_map, List.length_take, List.length_replicate]; omega) | decide) ?_)
    all_goals conv => whnf
    all_goals rfl
def outI (s : List Pt) (i : Nat) : List (List D) := (s.take i).map (fun p => [i64 p.id]) ++ List.replicate (s.length - i) [i64 0]
theorem outI_get {s : List Pt} {i : Nat} (h : i < s.length) : (outI s i)[((i : Nat) : Int).toNat]? = some [i64 0] := by
  rw [Int.toNat_natCast, outI, List.getElem?_append_right (by simp; omega), List.getElem?_replicate, if_pos (by simp; omega)]
theorem outI_set {s : List Pt} {i : Nat} (h : i < s.length) : (outI s i).set ((i : Nat) : Int).toNat [i64 s[i].id] = outI s (i + 1) := by
  rw [Int.toNat_natCast]
  unfold outI
  have hk : s.length - i = (s.length - (i + 1)) + 1 := by omega
  rw [List.take_succ_eq_append_getElem h, hk, List.replicate_succ, List.set_append_right _ _ (by simp; omega)]
  have h0 : i - ((s.take i).map fun p : Pt => [i64 p.id]).length = 0 := by simp; omega
  rw [h0, List.map_append, List.append_assoc]
  rfl
theorem outI_len {s : List Pt} {i : Nat} (h : i ≤ s.length) : (outI s i).length = s.length := by simp [outI]; omega
theorem fOrder_fn (l : List Pt) (n m : Int) : FnOK Try.prog 43 [fld l, rat n m] (retO (orderV l n m)) := by
  refine fn_ok (by kernel_rfl) (ty_okK [22] [] []) Try.func43 rfl (fun _ _ => Try.call43 _ _) rfl ?_
  intro hw
  clear hw
  have H := fsorted_fn l n m
  unfold orderV
  by_cases h : tchk l n m = 0
  · rw [if_pos h] at H ⊢
    obtain ⟨k1, k2, k3⟩ := fchk_ok (tchk_ok h).1
    have hl : (srt n m l).length = l.length := srt_len n m l
    have e : (ordV l n m).map (fun i => [i64 i]) = outI (srt n m l) (srt n m l).length := by simp [outI, ordV]
    generalize srt n m l = s at *
    repeat' ((conv => whnf); first | (with_reducible first | refine br_t ?_ | refine br_f ?_ | refine xa (by assumption) ?_ | refine xg (by assumption) rfl ?_ | refine xo (by assumption) ?_ | refine xb (by assumption) rfl ?_ | refine xm (by assumption) ?_ | refine xc (by assumption) ?_) | rw [List.length_map] | ((with_reducible refine bc_t ?_ ?_); (first | omega | decide)) | ((with_reducible refine bc_f ?_ ?_); (first | omega | decide)) | (with_reducible first | refine bc (fun h => ?_) (fun h => ?_) | refine br_t' (by assumption) ?_ | refine br_f' (by assumption) ?_ | refine br_i (fun h => ?_) (fun h => ?_)) | refine xg (by assumption) rfl ?_ | refine And.intro (by first | kernel_rfl | omega | (simp only [List.length_append, List.length_cons, List.length_nil, List.length_map, List.length_take, List.length_replicate]; omega) | decide) ?_)
    refine loop_J (by kernel_rfl) (ty_okK [22] [] []) (σ := Nat) (fun i => [(25, sV (.int .i64 i))]) (fun i => [(22, .row 1 (outI s i) 0)]) (fun i => i ≤ s.length) (fun i => s.length - i) 0 (Nat.zero_le _) ?_ ?_
    · (conv => whnf); refine ⟨by repeat' (first | with_reducible exact zE0 | with_reducible refine zE1 ?_ ?_ | rfl | assumption | (refine ent_i ?_; (first | omega | (rw [IntWalk.i64_in _ (by omega)]; omega) | (simp; done))) | (refine ent_b ?_; (first | omega | (rw [IntWalk.i64_in _ (by omega)]; omega) | (simp; done)))), by repeat' (first | with_reducible exact zH0 | with_reducible refine zH1 ?_ ?_ | rfl | assumption), rfl⟩
    intro i hi
    have hol := outI_len hi
    rcases Nat.lt_or_ge i s.length with hlt | hge
    · have hel := pts_get hlt
      have hel2 := outI_get hlt
      repeat' ((conv => whnf); first | (with_reducible first | refine br_t ?_ | refine br_f ?_ | refine xa (by assumption) ?_ | refine xg (by assumption) rfl ?_ | refine xo (by assumption) ?_ | refine xb (by assumption) rfl ?_ | refine xm (by assumption) ?_ | refine xc (by assumption) ?_) | rw [List.length_map] | ((with_reducible refine bc_t ?_ ?_); (first | omega | decide)) | ((with_reducible refine bc_f ?_ ?_); (first | omega | decide)) | (with_reducible first | refine bc (fun h => ?_) (fun h => ?_) | refine br_t' (by assumption) ?_ | refine br_f' (by assumption) ?_ | refine br_i (fun h => ?_) (fun h => ?_)) | refine xg (by assumption) rfl ?_ | refine And.intro (by first | kernel_rfl | omega | (simp only [List.length_append, List.length_cons, List.length_nil, List.length_map, List.length_take, List.length_replicate]; omega) | decide) ?_)
      all_goals conv => whnf
      refine ⟨i + 1, by omega, ?_, by omega⟩
      (conv => whnf); refine ⟨by repeat' (first | with_reducible exact zE0 | with_reducible refine zE1 ?_ ?_ | rfl | assumption | (exact congrArg (fun x => some (Blk.row 1 x 0)) (outI_set hlt)) | (refine ent_i ?_; (first | omega | (rw [IntWalk.i64_in _ (by omega)]; omega) | (simp; done))) | (refine ent_b ?_; (first | omega | (rw [IntWalk.i64_in _ (by omega)]; omega) | (simp; done)))), by repeat' (first | with_reducible exact zH0 | with_reducible refine zH1 ?_ ?_ | rfl | assumption | (exact congrArg (fun x => some (Blk.row 1 x 0)) (outI_set hlt))), rfl⟩
    · obtain rfl : i = s.length := by omega
      repeat' ((conv => whnf); first | (with_reducible first | refine br_t ?_ | refine br_f ?_ | refine xa (by assumption) ?_ | refine xg (by assumption) rfl ?_ | refine xo (by assumption) ?_ | refine xb (by assumption) rfl ?_ | refine xm (by assumption) ?_ | refine xc (by assumption) ?_) | rw [List.length_map] | ((with_reducible refine bc_t ?_ ?_); (first | omega | decide)) | ((with_reducible refine bc_f ?_ ?_); (first | omega | decide)) | (with_reducible first | refine bc (fun h => ?_) (fun h => ?_) | refine br_t' (by assumption) ?_ | refine br_f' (by assumption) ?_ | refine br_i (fun h => ?_) (fun h => ?_)) | refine xg (by assumption) rfl ?_ | refine And.intro (by first | kernel_rfl | omega | (simp only [List.length_append, List.length_cons, List.length_nil, List.length_map, List.length_take, List.length_replicate]; omega) | decide) ?_)
      all_goals conv => whnf
      all_goals exact congrArg (fun x => DV.tup [.one (.list 1 x), .one (i64 0)]) e.symm
  · rw [if_neg h] at H ⊢
    generalize tchk l n m = z at *
    repeat' ((conv => whnf); first | (with_reducible first | refine br_t ?_ | refine br_f ?_ | refine xa (by assumption) ?_ | refine xg (by assumption) rfl ?_ | refine xo (by assumption) ?_ | refine xb (by assumption) rfl ?_ | refine xm (by assumption) ?_ | refine xc (by assumption) ?_) | ((with_reducible refine bc_t ?_ ?_); (first | omega | decide)) | ((with_reducible refine bc_f ?_ ?_); (first | omega | decide)) | (with_reducible first | refine bc (fun h => ?_) (fun h => ?_) | refine br_t' (by assumption) ?_ | refine br_f' (by assumption) ?_ | refine br_i (fun h => ?_) (fun h => ?_)) | refine xg (by assumption) rfl ?_ | refine And.intro (by first | kernel_rfl | omega | (simp only [List.length_append, List.length_cons, List.length_nil, List.length_map, List.length_take, List.length_replicate]; omega) | decide) ?_)
    all_goals conv => whnf
    all_goals rfl
def findV (l : List Pt) (id : Int) : Pt × Int := if fchk l = 0 then (if has l id then (l[pos l id]?.getD default, 0) else (⟨0, 0, 0⟩, 6)) else (⟨0, 0, 0⟩, fchk l)
abbrev retPt (x : Pt × Int) : DV := .tup [x.1.dc, .one (i64 x.2)]
theorem fFind_fn (l : List Pt) (id : Int) : FnOK Try.prog 45 [fld l, .one (i64 id)] (retPt (findV l id)) := by
  refine fn_ok (by kernel_rfl) ty_ok Try.func45 rfl (fun _ _ => Try.call45 _ _) rfl ?_
  intro hw
  clear hw
  have H := fplace_fn l id
  unfold findV
  unfold placeV at H
  by_cases h0 : fchk l = 0
  · obtain ⟨k1, k2, k3⟩ := fchk_ok h0
    rw [if_pos h0] at H ⊢
    cases hh : has l id
    · rw [hh, if_neg (by decide)] at H
      repeat' ((conv => whnf); first | (with_reducible first | refine br_t ?_ | refine br_f ?_ | refine xa (by assumption) ?_ | refine xg (by assumption) rfl ?_ | refine xo (by assumption) ?_ | refine xb (by assumption) rfl ?_ | refine xm (by assumption) ?_ | refine xc (by assumption) ?_) | rw [List.length_map] | ((with_reducible refine bc_t ?_ ?_); (first | omega | decide)) | ((with_reducible refine bc_f ?_ ?_); (first | omega | decide)) | (with_reducible first | refine bc (fun h => ?_) (fun h => ?_) | refine br_t' (by assumption) ?_ | refine br_f' (by assumption) ?_ | refine br_i (fun h => ?_) (fun h => ?_)) | refine xg (by assumption) rfl ?_ | refine And.intro (by first | kernel_rfl | omega | (simp only [List.length_append, List.length_cons, List.length_nil, List.length_map, List.length_take, List.length_replicate]; omega) | decide) ?_)
      all_goals conv => whnf
      all_goals rfl
    · rw [hh, if_pos rfl] at H
      obtain ⟨hlt, _⟩ := (has_pos k3).1 hh
      have hel := pts_get hlt
      rw [if_pos rfl, List.getElem?_eq_getElem hlt]
      repeat' ((conv => whnf); first | (with_reducible first | refine br_t ?_ | refine br_f ?_ | refine xa (by assumption) ?_ | refine xg (by assumption) rfl ?_ | refine xo (by assumption) ?_ | refine xb (by assumption) rfl ?_ | refine xm (by assumption) ?_ | refine xc (by assumption) ?_) | rw [List.length_map] | ((with_reducible refine bc_t ?_ ?_); (first | omega | decide)) | ((with_reducible refine bc_f ?_ ?_); (first | omega | decide)) | (with_reducible first | refine bc (fun h => ?_) (fun h => ?_) | refine br_t' (by assumption) ?_ | refine br_f' (by assumption) ?_ | refine br_i (fun h => ?_) (fun h => ?_)) | refine xg (by assumption) rfl ?_ | refine And.intro (by first | kernel_rfl | omega | (simp only [List.length_append, List.length_cons, List.length_nil, List.length_map, List.length_take, List.length_replicate]; omega) | decide) ?_)
      all_goals conv => whnf
      all_goals rfl
  · rw [if_neg h0] at H ⊢
    generalize fchk l = z at *
    repeat' ((conv => whnf); first | (with_reducible first | refine br_t ?_ | refine br_f ?_ | refine xa (by assumption) ?_ | refine xg (by assumption) rfl ?_ | refine xo (by assumption) ?_ | refine xb (by assumption) rfl ?_ | refine xm (by assumption) ?_ | refine xc (by assumption) ?_) | ((with_reducible refine bc_t ?_ ?_); (first | omega | decide)) | ((with_reducible refine bc_f ?_ ?_); (first | omega | decide)) | (with_reducible first | refine bc (fun h => ?_) (fun h => ?_) | refine br_t' (by assumption) ?_ | refine br_f' (by assumption) ?_ | refine br_i (fun h => ?_) (fun h => ?_)) | refine xg (by assumption) rfl ?_ | refine And.intro (by first | kernel_rfl | omega | (simp only [List.length_append, List.length_cons, List.length_nil, List.length_map, List.length_take, List.length_replicate]; omega) | decide) ?_)
    all_goals conv => whnf
    all_goals rfl
end Go.Proofs.Ytjbnfoipjnkjdaa






/- The past: what there is at a time. No conditions. -/
namespace Go.Proofs.Ytjbnfoipjnkjdaa
open Go.RowKit Go.Sort Sx
theorem qv_lt {p q r t : Int} (h1 : chk p q = 0) (h2 : chk r t = 0) : qv p q < qv r t ↔ p * t < r * q := by
  have e1 := Rat.lt_iff (qv p q) (qv r t)
  rw [qv_num h1, qv_num h2, qv_den h1, qv_den h2] at e1
  exact e1
theorem rlt_trans {a b c : Rat} (h1 : a < b) (h2 : b < c) : a < c := Std.lt_trans h1 h2
/-- how many moments are before a time -/
def tpos : List Md → Int → Int → Nat
  | [], _, _ => 0
  | m :: l, n, e => if m.n * e < n * m.d then tpos l n e + 1 else 0
theorem tpos_eq : ∀ {l : List Md} {n e : Int} {i : Nat}, i ≤ l.length → (∀ k (h : k < l.length), k < i → l[k].n * e < n * l[k].d) → (∀ k (h : k < l.length), i ≤ k → n * l[k].d ≤ l[k].n * e) → tpos l n e = i
  | [], n, e, i, hi, _, _ => by simp at hi; simp [tpos, hi]
  | m :: l, n, e, 0, hi, h1, h2 => by
    have := h2 0 (by simp) (Nat.le_refl _)
    simp at this
    rw [tpos, if_neg (by omega)]
  | m :: l, n, e, i + 1, hi, h1, h2 => by
    have := h1 0 (by simp) (by omega)
    simp at this
    rw [tpos, if_pos this, tpos_eq (by simpa using hi) (fun k h hk => h1 (k + 1) (by simpa using h) (by omega)) (fun k h hk => h2 (k + 1) (by simpa using h) (by omega))]
def tcmp (m : Md) (n e : Int) : Int := cmpN (m.n * e) (n * m.d)
def tfnd (l : List Md) (n e : Int) : Bool := match l[tpos l n e]? with | some m => decide (tcmp m n e = 0) | none => false
/-- moments of a valid past: their times go up -/
structure Ups (l : List Md) : Prop where
  ok : ∀ i (h : i < l.length), chk l[i].n l[i].d = 0
  up : ∀ j i (hj : j < l.length) (hij : i < j), qv l[i].n l[i].d < qv l[j].n l[j].d
theorem ups_of {p : Pa} (h : pchk p = 0) : Ups p.ms := by
  obtain ⟨h1, h2, h3, h4, h5⟩ := pchk_ok h
  have hok : ∀ i (h : i < p.ms.length), chk p.ms[i].n p.ms[i].d = 0 := fun i hi => askd_chk (mchk_ok (h5 _ (List.getElem_mem hi))).1
  refine ⟨hok, fun j => ?_⟩
  have hadj := ((pgo_iff (n := p.n) (d := p.d) (l := p.ms) (i := 0) rfl (by omega)).1 (by rw [List.drop_zero]; exact h4)).2.1
  induction j with
  | zero => intro i _ h; omega
  | succ j ih =>
    intro i hj hij
    have h6 := (qv_lt (hok j (by omega)) (hok (j + 1) hj)).2 (hadj j hj (Nat.zero_le _))
    rcases Nat.lt_or_ge i j with h | h
    · exact rlt_trans (ih i (by omega) h) h6
    · have : i = j := by omega
      subst this; exact h6
theorem pWhat1_fn (m : Md) (n e : Int) (h1 : chk m.n m.d = 0) (h2 : chk n e = 0) : FnOK Try.prog 40 [m.dc, rat n e] (ret1 (tcmp m n e)) := by
  refine fn_ok (by kernel_rfl) ty_ok Try.func40 rfl (fun _ _ => Try.call40 _ _) rfl ?_
  intro hw
  clear hw
  have H := cmp_chk h1 h2
  unfold tcmp
  generalize cmpN (m.n * e) (n * m.d) = z at *
  repeat' ((conv => whnf); first | (with_reducible first | refine br_t ?_ | refine br_f ?_ | refine xa (by assumption) ?_ | refine xg (by assumption) rfl ?_ | refine xo (by assumption) ?_ | refine xb (by assumption) rfl ?_ | refine xm (by assumption) ?_ | refine xc (by assumption) ?_) | ((with_reducible refine bc_t ?_ ?_); (first | omega | decide)) | ((with_reducible refine bc_f ?_ ?_); (first | omega | decide)) | (with_reducible first | refine bc (fun h => ?_) (fun h => ?_) | refine br_t' (by assumption) ?_ | refine br_f' (by assumption) ?_ | refine br_i (fun h => ?_) (fun h => ?_)) | refine xg (by assumption) rfl ?_ | refine And.intro (by first | kernel_rfl | omega | (simp only [List.length_append, List.length_cons, List.length_nil, List.length_map, List.length_take, List.length_replicate]; omega) | decide) ?_)
  all_goals conv => whnf
  all_goals rfl
theorem bsMo_fn (l : List Md) (n e : Int) (hs : Ups l) (ht : chk n e = 0) (hl : l.length ≤ 1000000) : FnOK Try.prog 39 [.one (mos l), rat n e, .one (.clo 40 [])] (.tup [.one (i64 (tpos l n e : Nat)), .one (bol (tfnd l n e))]) := by
  refine fn_ok (by kernel_rfl) ty_ok Try.func39 rfl (fun _ _ => Try.call39 _ _) rfl ?_
  intro hw
  clear hw
  have hln : (l.map Md.c).length = l.length := List.length_map ..
  repeat' ((conv => whnf); first | (with_reducible first | refine br_t ?_ | refine br_f ?_ | refine xa (by assumption) ?_ | refine xg (by assumption) rfl ?_ | refine xo (by assumption) ?_ | refine xb (by assumption) rfl ?_ | refine xm (by assumption) ?_ | refine xc (by assumption) ?_) | ((with_reducible refine bc_t ?_ ?_); (first | omega | decide)) | ((with_reducible refine bc_f ?_ ?_); (first | omega | decide)) | (with_reducible first | refine bc (fun h => ?_) (fun h => ?_) | refine br_t' (by assumption) ?_ | refine br_f' (by assumption) ?_ | refine br_i (fun h => ?_) (fun h => ?_)) | refine xg (by assumption) rfl ?_ | refine And.intro (by first | kernel_rfl | omega | (simp only [List.length_append, List.length_cons, List.length_nil, List.length_map, List.length_take, List.length_replicate]; omega) | decide) ?_)
  refine loop_J (by kernel_rfl) ty_ok (σ := Nat × Nat) (fun s => [(9, sV (.int .i64 s.1)), (10, sV (.int .i64 s.2))]) (fun _ => [])
    (fun s => s.1 ≤ s.2 ∧ s.2 ≤ l.length ∧ (∀ k (h : k < l.length), k < s.1 → l[k].n * e < n * l[k].d) ∧ ∀ k (h : k < l.length), s.2 ≤ k → n * l[k].d ≤ l[k].n * e) (fun s => s.2 - s.1) (0, l.length) ⟨by omega, by omega, fun k h hk => absurd hk (Nat.not_lt_zero _), fun k h hk => absurd h (by show ¬ k < l.length; exact Nat.not_lt.2 hk)⟩ ?_ ?_
  · (conv => whnf); refine ⟨by repeat' (first | with_reducible exact zE0 | with_reducible refine zE1 ?_ ?_ | rfl | assumption | (refine ent_i ?_; (first | omega | (rw [IntWalk.i64_in _ (by omega)]; omega) | (simp; done))) | (refine ent_b ?_; (first | omega | (rw [IntWalk.i64_in _ (by omega)]; omega) | (simp; done)))), by repeat' (first | with_reducible exact zH0 | with_reducible refine zH1 ?_ ?_ | rfl | assumption), rfl⟩
  rintro ⟨i, j⟩ ⟨h1, h2, h3, h4⟩
  simp only at h1 h2 h3 h4
  rcases Nat.lt_or_ge i j with hlt | hge
  · have hm : (i + j) / 2 < l.length := by omega
    have hmid := mid_eq i j (by omega)
    have hel := mos_get hm
    have HC := pWhat1_fn l[(i + j) / 2] n e (hs.ok _ hm) ht
    unfold tcmp at HC
    have q0 := qv_lt (hs.ok _ hm) ht
    rcases (show l[(i + j) / 2].n * e < n * l[(i + j) / 2].d ∨ n * l[(i + j) / 2].d ≤ l[(i + j) / 2].n * e by omega) with hc | hc
    · have ec : cmpN (l[(i + j) / 2].n * e) (n * l[(i + j) / 2].d) = -1 := if_pos hc
      rw [ec] at HC
      have hN : ∀ k (h : k < l.length), k < (i + j) / 2 + 1 → l[k].n * e < n * l[k].d := fun k h hk => by
        rcases Nat.lt_or_ge k ((i + j) / 2) with h5 | h5
        · exact (qv_lt (hs.ok k h) ht).1 (rlt_trans (hs.up _ _ hm h5) (q0.2 hc))
        · have : k = (i + j) / 2 := by omega
          subst this; exact hc
      clear hc ec q0
      repeat' ((conv => whnf); first | (with_reducible first | refine br_t ?_ | refine br_f ?_ | refine xa (by assumption) ?_ | refine xg (by assumption) rfl ?_ | refine xo (by assumption) ?_ | refine xb (by assumption) rfl ?_ | refine xm (by assumption) ?_ | refine xc (by assumption) ?_) | rw [hmid] | ((with_reducible refine bc_t ?_ ?_); (first | omega | decide)) | ((with_reducible refine bc_f ?_ ?_); (first | omega | decide)) | (with_reducible first | refine bc (fun h => ?_) (fun h => ?_) | refine br_t' (by assumption) ?_ | refine br_f' (by assumption) ?_ | refine br_i (fun h => ?_) (fun h => ?_)) | refine xg (by assumption) rfl ?_ | refine And.intro (by first | kernel_rfl | omega | (simp only [List.length_append, List.length_cons, List.length_nil, List.length_map, List.length_take, List.length_replicate]; omega) | decide) ?_)
      all_goals conv => whnf
      refine ⟨((i + j) / 2 + 1, j), ⟨by show _ ≤ _; omega, h2, hN, h4⟩, ?_, by show _ - _ < _ - _; omega⟩
      (conv => whnf); refine ⟨by repeat' (first | with_reducible exact zE0 | with_reducible refine zE1 ?_ ?_ | rfl | assumption | (refine ent_i ?_; (first | omega | (rw [IntWalk.i64_in _ (by omega)]; omega) | (simp; done))) | (refine ent_b ?_; (first | omega | (rw [IntWalk.i64_in _ (by omega)]; omega) | (simp; done)))), by repeat' (first | with_reducible exact zH0 | with_reducible refine zH1 ?_ ?_ | rfl | assumption), rfl⟩
    · have ec : 0 ≤ cmpN (l[(i + j) / 2].n * e) (n * l[(i + j) / 2].d) := by unfold cmpN; split <;> (try split) <;> omega
      have hN : ∀ k (h : k < l.length), (i + j) / 2 ≤ k → n * l[k].d ≤ l[k].n * e := fun k h hk => by
        rcases Nat.lt_or_ge ((i + j) / 2) k with h5 | h5
        · have h6 := hs.up k _ h h5
          have h7 : ¬ qv l[k].n l[k].d < qv n e := fun h8 => by
            have := q0.1 (rlt_trans h6 h8); omega
          rw [qv_lt (hs.ok k h) ht] at h7; omega
        · have : k = (i + j) / 2 := by omega
          subst this; exact hc
      generalize cmpN (l[(i + j) / 2].n * e) (n * l[(i + j) / 2].d) = c at HC ec
      clear hc q0
      repeat' ((conv => whnf); first | (with_reducible first | refine br_t ?_ | refine br_f ?_ | refine xa (by assumption) ?_ | refine xg (by assumption) rfl ?_ | refine xo (by assumption) ?_ | refine xb (by assumption) rfl ?_ | refine xm (by assumption) ?_ | refine xc (by assumption) ?_) | rw [hmid] | ((with_reducible refine bc_t ?_ ?_); (first | omega | decide)) | ((with_reducible refine bc_f ?_ ?_); (first | omega | decide)) | (with_reducible first | refine bc (fun h => ?_) (fun h => ?_) | refine br_t' (by assumption) ?_ | refine br_f' (by assumption) ?_ | refine br_i (fun h => ?_) (fun h => ?_)) | refine xg (by assumption) rfl ?_ | refine And.intro (by first | kernel_rfl | omega | (simp only [List.length_append, List.length_cons, List.length_nil, List.length_map, List.length_take, List.length_replicate]; omega) | decide) ?_)
      all_goals conv => whnf
      refine ⟨(i, (i + j) / 2), ⟨by show _ ≤ _; omega, by show _ ≤ _; omega, h3, hN⟩, ?_, by show _ - _ < _ - _; omega⟩
      (conv => whnf); refine ⟨by repeat' (first | with_reducible exact zE0 | with_reducible refine zE1 ?_ ?_ | rfl | assumption | (refine ent_i ?_; (first | omega | (rw [IntWalk.i64_in _ (by omega)]; omega) | (simp; done))) | (refine ent_b ?_; (first | omega | (rw [IntWalk.i64_in _ (by omega)]; omega) | (simp; done)))), by repeat' (first | with_reducible exact zH0 | with_reducible refine zH1 ?_ ?_ | rfl | assumption), rfl⟩
  · have eij : i = j := by omega
    subst eij
    have hp := tpos_eq h2 h3 h4
    unfold tfnd
    rw [hp]
    clear h3 h4
    rcases Nat.lt_or_ge i l.length with hlt | hge2
    · have hel := mos_get hlt
      have HC := pWhat1_fn l[i] n e (hs.ok i hlt) ht
      rw [List.getElem?_eq_getElem hlt]
      simp only
      generalize tcmp l[i] n e = c at HC
      by_cases hc : c = 0
      all_goals
        repeat' ((conv => whnf); first | (with_reducible first | refine br_t ?_ | refine br_f ?_ | refine xa (by assumption) ?_ | refine xg (by assumption) rfl ?_ | refine xo (by assumption) ?_ | refine xb (by assumption) rfl ?_ | refine xm (by assumption) ?_ | refine xc (by assumption) ?_) | ((with_reducible refine bc_t ?_ ?_); (first | omega | decide)) | ((with_reducible refine bc_f ?_ ?_); (first | omega | decide)) | (with_reducible first | refine bc (fun h => ?_) (fun h => ?_) | refine br_t' (by assumption) ?_ | refine br_f' (by assumption) ?_ | refine br_i (fun h => ?_) (fun h => ?_)) | refine xg (by assumption) rfl ?_ | refine And.intro (by first | kernel_rfl | omega | (simp only [List.length_append, List.length_cons, List.length_nil, List.length_map, List.length_take, List.length_replicate]; omega) | decide) ?_)
        all_goals conv => whnf
        all_goals simp [hc]
    · rw [List.getElem?_eq_none hge2]
      repeat' ((conv => whnf); first | (with_reducible first | refine br_t ?_ | refine br_f ?_ | refine xa (by assumption) ?_ | refine xg (by assumption) rfl ?_ | refine xo (by assumption) ?_ | refine xb (by assumption) rfl ?_ | refine xm (by assumption) ?_ | refine xc (by assumption) ?_) | ((with_reducible refine bc_t ?_ ?_); (first | omega | decide)) | ((with_reducible refine bc_f ?_ ?_); (first | omega | decide)) | (with_reducible first | refine bc (fun h => ?_) (fun h => ?_) | refine br_t' (by assumption) ?_ | refine br_f' (by assumption) ?_ | refine br_i (fun h => ?_) (fun h => ?_)) | refine xg (by assumption) rfl ?_ | refine And.intro (by first | kernel_rfl | omega | (simp only [List.length_append, List.length_cons, List.length_nil, List.length_map, List.length_take, List.length_replicate]; omega) | decide) ?_)
      all_goals conv => whnf
      all_goals rfl
end Go.Proofs.Ytjbnfoipjnkjdaa






/- The past: What, Leader, Order. No conditions. -/
namespace Go.Proofs.Ytjbnfoipjnkjdaa
open Go.RowKit Go.Sort Sx
def wcnt (l : List Md) (n e : Int) : Nat := tpos l n e + if tfnd l n e then 1 else 0
def whatV (p : Pa) (n e : Int) : List Pt × Int :=
  if pchk p = 0 then (if askd n e = 0 then (if p.n * e < n * p.d then ([], 6) else if wcnt p.ms n e = 0 then ([], 6) else ((p.ms[wcnt p.ms n e - 1]?.getD default).l, 0)) else ([], 8)) else ([], 8)
abbrev retW (x : List Pt × Int) : DV := .tup [fld x.1, .one (i64 x.2)]
theorem tpos_le : ∀ (l : List Md) (n e : Int), tpos l n e ≤ l.length
  | [], _, _ => Nat.le_refl _
  | m :: l, n, e => by rw [tpos]; split <;> simp [tpos_le l n e]
theorem tpos_spec : ∀ {l : List Md} {n e : Int}, (∀ k (h : k < l.length), k < tpos l n e → l[k].n * e < n * l[k].d) ∧ ∀ (h : tpos l n e < l.length), ¬ l[tpos l n e].n * e < n * l[tpos l n e].d
  | [], n, e => ⟨fun k h => by simp at h, fun h => by simp at h⟩
  | m :: l, n, e => by
    by_cases hp : m.n * e < n * m.d
    · obtain ⟨h1, h2⟩ := tpos_spec (l := l) (n := n) (e := e)
      have et : tpos (m :: l) n e = tpos l n e + 1 := by rw [tpos, if_pos hp]
      refine ⟨fun k h hk => ?_, fun h => ?_⟩
      · cases k with
        | zero => exact hp
        | succ k => simpa using h1 k (by simpa using h) (by omega)
      · have := h2 (by simp only [et, List.length_cons] at h; omega)
        simp only [et, List.getElem_cons_succ]
        exact this
    · have et : tpos (m :: l) n e = 0 := by rw [tpos, if_neg hp]
      refine ⟨fun k h hk => by omega, fun h => ?_⟩
      simp only [et, List.getElem_cons_zero]
      exact hp
theorem tfnd_lt {l : List Md} {n e : Int} (h : tfnd l n e = true) : ∃ h : tpos l n e < l.length, tcmp l[tpos l n e] n e = 0 := by
  unfold tfnd at h
  split at h
  · rename_i m hm
    obtain ⟨h1, rfl⟩ := List.getElem?_eq_some_iff.1 hm
    exact ⟨h1, of_decide_eq_true h⟩
  · cases h
theorem wcnt_le (l : List Md) (n e : Int) : wcnt l n e ≤ l.length := by
  unfold wcnt
  have := tpos_le l n e
  cases h : tfnd l n e
  · simpa using this
  · obtain ⟨h1, _⟩ := tfnd_lt h
    simp; omega
theorem wcnt_iff {l : List Md} {n e : Int} (hs : Ups l) (ht : chk n e = 0) {i : Nat} (hi : i < l.length) : cmpN (l[i].n * e) (n * l[i].d) ≤ 0 ↔ i < wcnt l n e := by
  obtain ⟨h1, h2⟩ := tpos_spec (l := l) (n := n) (e := e)
  have hq := qv_lt (hs.ok i hi) ht
  rcases Nat.lt_trichotomy i (tpos l n e) with h | h | h
  · have := h1 i hi h
    have k : cmpN (l[i].n * e) (n * l[i].d) = -1 := if_pos this
    rw [k]
    unfold wcnt
    constructor
    · intro _; omega
    · intro _; omega
  · have hlt : tpos l n e < l.length := by omega
    have h3 := h2 hlt
    have h5 : tfnd l n e = decide (tcmp l[tpos l n e] n e = 0) := by unfold tfnd; rw [List.getElem?_eq_getElem hlt]
    have h6 : 0 ≤ tcmp l[tpos l n e] n e := by unfold tcmp cmpN; rw [if_neg h3]; split <;> omega
    have h7 : cmpN (l[i].n * e) (n * l[i].d) = tcmp l[tpos l n e] n e := by unfold tcmp; simp only [h]
    rw [h7]
    unfold wcnt
    rw [h5]
    by_cases hc : tcmp l[tpos l n e] n e = 0
    · simp [hc]; omega
    · simp [hc]; omega
  · have hlt : tpos l n e < l.length := by omega
    have h3 := h2 hlt
    have h4 := hs.up i (tpos l n e) hi h
    have q2 := qv_lt (hs.ok _ hlt) ht
    have q3 := qv_lt ht (hs.ok i hi)
    have h5 : n * l[i].d < l[i].n * e := by
      rcases Int.lt_or_le (n * l[i].d) (l[i].n * e) with h6 | h6
      · exact h6
      · exfalso
        have h7 : ¬ qv n e < qv l[i].n l[i].d := fun h8 => by have := q3.1 h8; omega
        have h8 : qv l[i].n l[i].d ≤ qv n e := Rat.not_lt.1 h7
        exact h3 (q2.1 (Std.lt_of_lt_of_le h4 h8))
    have k : cmpN (l[i].n * e) (n * l[i].d) = 1 := by unfold cmpN; rw [if_neg (by omega), if_pos h5]
    rw [k]
    unfold wcnt
    constructor
    · intro h; omega
    · intro h6; split at h6 <;> omega
set_option maxHeartbeats 2000000 in
theorem pWhat_fn (p : Pa) (n e : Int) : FnOK Try.prog 17 [p.dc, rat n e] (retW (whatV p n e)) := by
  have H1 := pCheck_fn p
  have H2 := asked_fn n e
  unfold whatV
  by_cases h1 : pchk p = 0
  · rw [if_pos h1]
    rw [h1] at H1
    by_cases h2 : askd n e = 0
    · rw [if_pos h2]
      rw [h2] at H2
      have ht := askd_chk h2
      obtain ⟨k1, k2, k3, k4, k5⟩ := pchk_ok h1
      have hu := ups_of h1
      have H3 := cmp_chk ht (askd_chk k3)
      by_cases h3 : p.n * e < n * p.d
      · rw [if_pos h3]
        have e3 : cmpN (n * p.d) (p.n * e) = 1 := by unfold cmpN; rw [if_neg (by omega), if_pos h3]
        rw [e3] at H3
        refine fn_ok (by kernel_rfl) ty_ok Try.func17 rfl (fun _ _ => Try.call17 _ _) rfl ?_
        intro hw
        clear hw h3 e3
        repeat' ((conv => whnf); first | (with_reducible first | refine br_t ?_ | refine br_f ?_ | refine xa (by assumption) ?_ | refine xg (by assumption) rfl ?_ | refine xo (by assumption) ?_ | refine xb (by assumption) rfl ?_ | refine xm (by assumption) ?_ | refine xc (by assumption) ?_) | ((with_reducible refine bc_t ?_ ?_); (first | omega | decide)) | ((with_reducible refine bc_f ?_ ?_); (first | omega | decide)) | (with_reducible first | refine bc (fun h => ?_) (fun h => ?_) | refine br_t' (by assumption) ?_ | refine br_f' (by assumption) ?_ | refine br_i (fun h => ?_) (fun h => ?_)) | refine xg (by assumption) rfl ?_ | refine And.intro (by first | kernel_rfl | omega | (simp only [List.length_append, List.length_cons, List.length_nil, List.length_map, List.length_take, List.length_replicate]; omega) | decide) ?_)
        all_goals conv => whnf
        all_goals rfl
      · rw [if_neg h3]
        have e3 : cmpN (n * p.d) (p.n * e) ≤ 0 := by unfold cmpN; split <;> (try split) <;> omega
        generalize cmpN (n * p.d) (p.n * e) = z at H3 e3
        clear h3
        have H4 := bsMo_fn p.ms n e hu ht (by omega)
        have hle := tpos_le p.ms n e
        have hln : (p.ms.map Md.c).length = p.ms.length := List.length_map ..
        cases hf : tfnd p.ms n e
        · have ew : wcnt p.ms n e = tpos p.ms n e := by unfold wcnt; rw [hf]; rfl
          rw [ew]
          rw [hf] at H4
          by_cases h0 : tpos p.ms n e = 0
          · rw [if_pos h0]
            rw [h0] at H4
            refine fn_ok (by kernel_rfl) ty_ok Try.func17 rfl (fun _ _ => Try.call17 _ _) rfl ?_
            intro hw
            clear hw
            repeat' ((conv => whnf); first | (with_reducible first | refine br_t ?_ | refine br_f ?_ | refine xa (by assumption) ?_ | refine xg (by assumption) rfl ?_ | refine xo (by assumption) ?_ | refine xb (by assumption) rfl ?_ | refine xm (by assumption) ?_ | refine xc (by assumption) ?_) | ((with_reducible refine bc_t ?_ ?_); (first | omega | decide)) | ((with_reducible refine bc_f ?_ ?_); (first | omega | decide)) | (with_reducible first | refine bc (fun h => ?_) (fun h => ?_) | refine br_t' (by assumption) ?_ | refine br_f' (by assumption) ?_ | refine br_i (fun h => ?_) (fun h => ?_)) | refine xg (by assumption) rfl ?_ | refine And.intro (by first | kernel_rfl | omega | (simp only [List.length_append, List.length_cons, List.length_nil, List.length_map, List.length_take, List.length_replicate]; omega) | decide) ?_)
            all_goals conv => whnf
            all_goals rfl
          · rw [if_neg h0]
            have hlt : tpos p.ms n e - 1 < p.ms.length := by omega
            generalize tpos p.ms n e = k at *
            have ewr : IntKind.i64.wrap ((k : Int) - 1) = ((k - 1 : Nat) : Int) := by rw [IntWalk.i64_in _ (by omega)]; omega
            have hel := mos_get' (l := p.ms) (i := k - 1) (j := IntKind.i64.wrap ((k : Int) - 1)) hlt (by rw [ewr]; omega)
            rw [List.getElem?_eq_getElem hlt]
            have H5 := pcopied_fn p.ms[k - 1].l (by have := mchk_len (k5 _ (List.getElem_mem hlt)); omega)
            refine fn_ok (by kernel_rfl) ty_ok Try.func17 rfl (fun _ _ => Try.call17 _ _) rfl ?_
            intro hw
            clear hw
            repeat' ((conv => whnf); first | (with_reducible first | refine br_t ?_ | refine br_f ?_ | refine xa (by assumption) ?_ | refine xg (by assumption) rfl ?_ | refine xo (by assumption) ?_ | refine xb (by assumption) rfl ?_ | refine xm (by assumption) ?_ | refine xc (by assumption) ?_) | ((with_reducible refine bc_t ?_ ?_); (first | omega | decide)) | ((with_reducible refine bc_f ?_ ?_); (first | omega | decide)) | (with_reducible first | refine bc (fun h => ?_) (fun h => ?_) | refine br_t' (by assumption) ?_ | refine br_f' (by assumption) ?_ | refine br_i (fun h => ?_) (fun h => ?_)) | refine xg (by assumption) rfl ?_ | refine And.intro (by first | kernel_rfl | omega | (simp only [List.length_append, List.length_cons, List.length_nil, List.length_map, List.length_take, List.length_replicate]; omega) | decide) ?_)
            all_goals conv => whnf
            all_goals rfl
        · obtain ⟨hlt, _⟩ := tfnd_lt hf
          have ew : wcnt p.ms n e = tpos p.ms n e + 1 := by unfold wcnt; rw [hf]; rfl
          rw [ew, if_neg (by omega), Nat.add_sub_cancel]
          rw [hf] at H4
          have hel := mos_get hlt
          rw [List.getElem?_eq_getElem hlt]
          have H5 := pcopied_fn p.ms[tpos p.ms n e].l (by have := mchk_len (k5 _ (List.getElem_mem hlt)); omega)
          refine fn_ok (by kernel_rfl) ty_ok Try.func17 rfl (fun _ _ => Try.call17 _ _) rfl ?_
          intro hw
          clear hw
          repeat' ((conv => whnf); first | (with_reducible first | refine br_t ?_ | refine br_f ?_ | refine xa (by assumption) ?_ | refine xg (by assumption) rfl ?_ | refine xo (by assumption) ?_ | refine xb (by assumption) rfl ?_ | refine xm (by assumption) ?_ | refine xc (by assumption) ?_) | ((with_reducible refine bc_t ?_ ?_); (first | omega | decide)) | ((with_reducible refine bc_f ?_ ?_); (first | omega | decide)) | (with_reducible first | refine bc (fun h => ?_) (fun h => ?_) | refine br_t' (by assumption) ?_ | refine br_f' (by assumption) ?_ | refine br_i (fun h => ?_) (fun h => ?_)) | refine xg (by assumption) rfl ?_ | refine And.intro (by first | kernel_rfl | omega | (simp only [List.length_append, List.length_cons, List.length_nil, List.length_map, List.length_take, List.length_replicate]; omega) | decide) ?_)
          all_goals conv => whnf
          all_goals rfl
    · rw [if_neg h2]
      generalize askd n e = z at *
      refine fn_ok (by kernel_rfl) ty_ok Try.func17 rfl (fun _ _ => Try.call17 _ _) rfl ?_
      intro hw
      clear hw
      repeat' ((conv => whnf); first | (with_reducible first | refine br_t ?_ | refine br_f ?_ | refine xa (by assumption) ?_ | refine xg (by assumption) rfl ?_ | refine xo (by assumption) ?_ | refine xb (by assumption) rfl ?_ | refine xm (by assumption) ?_ | refine xc (by assumption) ?_) | ((with_reducible refine bc_t ?_ ?_); (first | omega | decide)) | ((with_reducible refine bc_f ?_ ?_); (first | omega | decide)) | (with_reducible first | refine bc (fun h => ?_) (fun h => ?_) | refine br_t' (by assumption) ?_ | refine br_f' (by assumption) ?_ | refine br_i (fun h => ?_) (fun h => ?_)) | refine xg (by assumption) rfl ?_ | refine And.intro (by first | kernel_rfl | omega | (simp only [List.length_append, List.length_cons, List.length_nil, List.length_map, List.length_take, List.length_replicate]; omega) | decide) ?_)
      all_goals conv => whnf
      all_goals rfl
  · rw [if_neg h1]
    have h8 : pchk p = 8 := (pchk_08 p).resolve_left h1
    rw [h8] at H1
    refine fn_ok (by kernel_rfl) ty_ok Try.func17 rfl (fun _ _ => Try.call17 _ _) rfl ?_
    intro hw
    clear hw
    repeat' ((conv => whnf); first | (with_reducible first | refine br_t ?_ | refine br_f ?_ | refine xa (by assumption) ?_ | refine xg (by assumption) rfl ?_ | refine xo (by assumption) ?_ | refine xb (by assumption) rfl ?_ | refine xm (by assumption) ?_ | refine xc (by assumption) ?_) | ((with_reducible refine bc_t ?_ ?_); (first | omega | decide)) | ((with_reducible refine bc_f ?_ ?_); (first | omega | decide)) | (with_reducible first | refine bc (fun h => ?_) (fun h => ?_) | refine br_t' (by assumption) ?_ | refine br_f' (by assumption) ?_ | refine br_i (fun h => ?_) (fun h => ?_)) | refine xg (by assumption) rfl ?_ | refine And.intro (by first | kernel_rfl | omega | (simp only [List.length_append, List.length_cons, List.length_nil, List.length_map, List.length_take, List.length_replicate]; omega) | decide) ?_)
    all_goals conv => whnf
    all_goals rfl
end Go.Proofs.Ytjbnfoipjnkjdaa
