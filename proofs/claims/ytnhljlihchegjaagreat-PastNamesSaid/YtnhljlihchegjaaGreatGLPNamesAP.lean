import Derived.Test.YtnhljlihchegjaaGreatGLPNamesAO
import Derived.Test.YtnhljlihchegjaaGreatGLPNamesAM
import Derived.Test.YtnhljlihchegjaaGreatGLPNamesAN
set_option linter.all false
/- slices.SortFunc as the symbolic walk takes it: the row that it is handed holds core's sorted list. No conditions of its own. -/
namespace Go.Proofs.YtnhljlihchegjaaGreat
open Go Go.Shelf Go.RowKit Go.Lib Go.Sort Sx
namespace Sx
theorem flat_get2 {k : Nat} (hk0 : 0 < k) : ∀ {l : List (List Value)} {t : Nat}, (∀ x ∈ l, x.length = k) → t < l.length * k → l.flatten[t]? = (l[t / k]?).bind (fun x => x[t % k]?)
  | [], t, _, h => by simp at h
  | x :: l, t, hk, h => by
    have hx := hk x (List.mem_cons_self ..)
    rw [List.flatten_cons]
    rcases Nat.lt_or_ge t k with h1 | h1
    · rw [List.getElem?_append_left (by omega), Nat.div_eq_of_lt h1, Nat.mod_eq_of_lt h1]; rfl
    · obtain ⟨u, rfl⟩ : ∃ u, t = u + k := ⟨t - k, by omega⟩
      rw [List.getElem?_append_right (by omega), hx, Nat.add_sub_cancel, flat_get2 hk0 (fun y hy => hk y (List.mem_cons_of_mem _ hy)) (by simp only [List.length_cons, Nat.add_mul, Nat.one_mul] at h; omega), Nat.add_div_right _ hk0, Nat.add_mod_right]
      rfl
theorem flat_len2 {k : Nat} : ∀ {l : List (List Value)}, (∀ x ∈ l, x.length = k) → l.flatten.length = l.length * k
  | [], _ => by simp
  | x :: l, hk => by
    rw [List.flatten_cons, List.length_append, hk x (List.mem_cons_self ..), flat_len2 fun y hy => hk y (List.mem_cons_of_mem _ hy), List.length_cons, Nat.add_mul, Nat.one_mul]
    omega
theorem flatK_toList {α : Type} [Inhabited α] {enc : α → List Value} {k : Nat} (hk0 : 0 < k) (hk : ∀ x, (enc x).length = k) (d : List α) : (flatK enc k d.toArray).toList = (d.map enc).flatten := by
  have hm : ∀ x ∈ d.map enc, x.length = k := fun x hx => by obtain ⟨y, _, rfl⟩ := List.mem_map.1 hx; exact hk y
  have hl := flat_len2 hm
  rw [List.length_map] at hl
  refine List.ext_getElem? fun t => ?_
  rcases Nat.lt_or_ge t (d.length * k) with h | h
  · have h2 := get_flatK enc k d.toArray t (by simpa using h)
    have hd : t / k < d.length := Nat.div_lt_of_lt_mul (by rw [Nat.mul_comm]; exact h)
    have hsz : t < (flatK enc k d.toArray).size := by simpa using h
    rw [getElem!_pos (flatK enc k d.toArray) t hsz] at h2
    rw [flat_get2 hk0 hm (by simpa using h), List.getElem?_map, List.getElem?_eq_getElem hd, Array.getElem?_toList, Array.getElem?_eq_getElem hsz, h2]
    have e1 : d.toArray[t / k]! = d[t / k] := by rw [getElem!_pos d.toArray (t / k) (by simpa using hd)]; simp
    rw [e1]
    have h3 : t % k < (enc d[t / k]).length := by rw [hk]; exact Nat.mod_lt _ hk0
    rw [getElem!_pos (enc d[t / k]) (t % k) h3]
    simp [List.getElem?_eq_getElem h3]
  · rw [List.getElem?_eq_none (by simpa using h), List.getElem?_eq_none (by omega)]
theorem heap_sort {α : Type} [Inhabited α] {enc : α → List Value} {k n b : Nat} {dk : Array α} {os : Array Obj} {w : World} {c : Array Value} {T : TypeId} (hb : w.heap[b]? = some (.cells c T (0, 0))) :
    (sortWorldK enc k w b 0 n dk os).heap[b]? = some (.cells (putCells id 0 (flatK enc k dk) c) T (0, 0)) := by
  have hlt : b < w.heap.size := (Array.getElem?_eq_some_iff.1 hb).1
  unfold sortWorldK grow putRowK putRow mapBlock
  simp only
  rw [Array.getElem?_append_left (by simpa [Sort.ahead] using hlt)]
  simp [Sort.ahead, Array.getElem?_modify, hb, onCells]
theorem heap_sort_other {α : Type} [Inhabited α] {enc : α → List Value} {k n b i : Nat} {dk : Array α} {os : Array Obj} {w : World} (hi : i < w.heap.size) (hne : i ≠ b) : (sortWorldK enc k w b 0 n dk os).heap[i]? = w.heap[i]? := by
  unfold sortWorldK grow putRowK putRow mapBlock
  simp only
  rw [Array.getElem?_append_left (by simpa [Sort.ahead] using hi)]
  simp [Sort.ahead, Array.getElem?_modify, Ne.symm hne]
theorem size_sort {α : Type} [Inhabited α] {enc : α → List Value} {k n b : Nat} {dk : Array α} {os : Array Obj} {w : World} : w.heap.size ≤ (sortWorldK enc k w b 0 n dk os).heap.size := by
  unfold sortWorldK grow putRowK putRow mapBlock
  simp [Sort.ahead]
theorem put_flat {F : Array Value} {c : List Value} (h : F.size ≤ c.length) : (putCells id 0 F c.toArray).toList = F.toList ++ c.drop F.size := by
  refine List.ext_getElem? fun t => ?_
  rw [Array.getElem?_toList]
  unfold putCells
  rw [Array.getElem?_mapIdx]
  rcases Nat.lt_or_ge t F.size with h1 | h1
  · rw [List.getElem?_append_left (by simpa using h1)]
    have : t < c.length := by omega
    simp [h1, this]
  · rw [List.getElem?_append_right (by simpa using h1)]
    simp only [List.getElem?_drop, Array.length_toList]
    rw [show F.size + (t - F.size) = t by omega]
    simp
    have : ¬ t < F.size := by omega
    simp [this]
theorem dsR_flat {w : World} {M : Nat → Prop} : ∀ {xs vs : List Value}, DsR w M (xs.map .v) vs → vs = xs
  | [], [], _ => rfl
  | x :: xs, v :: vs, h => by
    have h1 : Rep w M (.v x) v := h.1
    cases h1
    rw [dsR_flat h.2]
  | [], _ :: _, h => h.elim
  | _ :: _, [], h => h.elim
theorem dsR_of_flat {w : World} {M : Nat → Prop} : ∀ {xs : List Value}, (∀ v ∈ xs, v.oneCell' = true ∧ wfV v) → DsR w M (xs.map .v) xs
  | [], _ => trivial
  | x :: xs, h => ⟨.v x (h x (List.mem_cons_self ..)).1 (h x (List.mem_cons_self ..)).2, dsR_of_flat fun v hv => h v (List.mem_cons_of_mem _ hv)⟩
theorem flatL_v : ∀ (xs : List Value), flatL (xs.map .v) = true
  | [] => rfl
  | x :: xs => flatL_v xs
theorem flatten_v {α : Type} {enc : α → List Value} (d : List α) : (d.map fun x => (enc x).map D.v).flatten = ((d.map enc).flatten).map D.v := by
  induction d with
  | nil => rfl
  | cons x d ih => rw [List.map_cons, List.flatten_cons, ih, List.map_cons, List.flatten_cons, List.map_append]
/-- **slices.SortFunc**, at whatever elements of k cells without memory, and a comparing function of the project's own that is a total order on them -/
theorem sort_mu {P : Program} {ρ : Ren} {α : Type} [Inhabited α] (L : SlLaysF0.n6 P ρ) {k : Nat} (hk0 : 0 < k) (aE : ∀ w, (isAgg (ρ.t 24)).run P w = .ok true w) (zE : ∀ w, (Go.sizeOf (ρ.t 24)).run P w = .ok k w)
    (enc : α → List Value) (hk : ∀ x, (enc x).length = k) (h1 : ∀ x, ∀ v ∈ enc x, v.oneCell' = true ∧ wfV v) (cf : α → α → Int) (hO : SWO (ltOf cf)) (hT : ∀ x y, ltOf cf x y = false → ltOf cf y x = false → x = y) {g : Nat} {caps : List (List D)}
    (eg : ∀ args w, (callFunc g args).run P w = .ok (.enter g args) w) (es : ∀ args w, (callFunc (ρ.f 6) args).run P w = .ok (.enter (ρ.f 6) args) w)
    (hcmp : ∀ x y, FnD P g ([.agg ((enc x).map .v), .agg ((enc y).map .v)] ++ refsC caps) (.c (.one (.v (.int .i64 (cf x y)))))) (d : List α) (hsz : d.length < 4611686018427387904) :
    FnMu P (ρ.f 6) k (d.map fun x => (enc x).map .v) [.one (.clo g caps)] ((d.mergeSort fun x y => !(ltOf cf) y x).map fun x => (enc x).map .v) := by
  refine ⟨fun e he => ?_, fun w M v vs m hM hm hvs hB hv => ?_⟩
  · obtain ⟨x, _, rfl⟩ := List.mem_map.1 he
    exact flatL_v _
  match vs, hvs with
  | [u], ⟨hu, _⟩ =>
    obtain ⟨ps, rfl, hps⟩ := crefs_rel (show Rep w M (.clo g caps) u from hu)
    obtain ⟨x, rfl, hx⟩ := hv
    obtain ⟨⟨k1, k2, k3, k4, k5⟩, hreal⟩ := hB
    refine ⟨ρ.f 6, es _ _, ?_⟩
    rw [List.length_map] at k2
    cases d with
    | nil =>
      have k2 : 0 = m.len := k2
      rw [← k2]
      refine (AnyF.slices_SortFunc_none L x m.cap _ w).mono ?_
      rintro e w' ⟨rfl, rfl⟩
      exact ⟨rfl, .refl _ _ _, ⟨by simp, by simpa using k2, fun _ => by simp, rfl, k5⟩, by simpa using hreal⟩
    | cons y ys =>
      have hc0 : 0 < m.cap := by
        rcases Nat.eq_zero_or_pos m.cap with h | h
        · have := k3 h; simp at this
        · exact h
      rw [hx hc0, ← k2]
      obtain ⟨cs, ⟨T, hcs⟩, c1, c2, c3, vals, rest, c4, c5⟩ := hreal (by simpa [Blk.real] using hc0)
      rw [flatten_v] at c5
      have hvals := dsR_flat c5
      generalize hd : y :: ys = d at *
      have hm' : ∀ x ∈ d.map enc, x.length = k := fun x hx => by obtain ⟨y, _, rfl⟩ := List.mem_map.1 hx; exact hk y
      have hfl : (d.map enc).flatten.length = d.length * k := by rw [flat_len2 hm', List.length_map]
      have hbl : m.b < w.heap.size := hM _ (hm hc0)
      have hH : HoldsK enc k w m.b 0 d.toArray := by
        intro j hj
        have hj' : j < d.length * k := by simpa using hj
        rw [Nat.zero_add]
        refine ⟨?_, frozen_of_row w m.b j cs.toArray T hcs⟩
        rw [cell_of ⟨T, hcs⟩, c4, List.getElem?_append_left (by rw [hvals, hfl]; exact hj'), hvals, ← flatK_toList hk0 hk, Array.getElem?_toList, getElem!_pos (flatK enc k d.toArray) j hj, Array.getElem?_eq_getElem hj]
        rfl
      have hHold : ∀ n (dk : Array α) os, Sx.Holds M w (sortWorldK enc k w m.b 0 n dk os) := fun n dk os =>
        ⟨size_sort, fun b hb hMb _ => heap_sort_other hb fun e => hMb (by rw [e]; exact hm hc0)⟩
      have hC : CmpLays P g ps.toArray enc k cf m.b 0 d.toArray.size w := by
        intro n os dk hdk a b
        have hargs : DCsR (sortWorldK enc k w m.b 0 n dk os) M ([.agg ((enc a).map .v), .agg ((enc b).map .v)] ++ refsC caps) ([.agg (enc a).toArray, .agg (enc b).toArray] ++ ps) :=
          ⟨⟨_, rfl, dsR_of_flat (h1 a)⟩, ⟨_, rfl, dsR_of_flat (h1 b)⟩, hps.mono (hHold n dk os) (fun _ _ h => h)⟩
        rcases hcmp a b _ M _ (fun b hb => Nat.lt_of_lt_of_le (hM b hb) size_sort) hargs with ⟨g', hg, hc⟩ | ⟨_, hg, _⟩
        · rw [eg] at hg
          injection hg with h2
          injection h2 with h2
          subst h2
          have e : (#[Value.agg (enc a).toArray, .agg (enc b).toArray] ++ ps.toArray : Array Value) = ([Value.agg (enc a).toArray, Value.agg (enc b).toArray] ++ ps).toArray := by simp
          rw [e]
          refine hc.mono ?_
          rintro e w' ⟨u, rfl, hu, hb, hdr⟩
          have hu : Rep w' M (.v (.int .i64 (cf a b))) u := hu
          cases hu
          obtain ⟨q, hq⟩ := regrown_of_below hb
          have hqd : w'.drawn = q.d := by rw [hq]; rfl
          refine ⟨rfl, q.d - (sortWorldK enc k w m.b 0 n dk os).drawn, q.os, ?_⟩
          rw [hq]
          unfold redrawn World.drewN
          rw [show (sortWorldK enc k w m.b 0 n dk os).drawn + (q.d - (sortWorldK enc k w m.b 0 n dk os).drawn) = q.d by omega]
        · rw [eg] at hg
          injection hg with h2
          cases h2
      have hlaw := AnyQ.slices_SortFunc_total L k aE zE enc hk (fun x v hv => (h1 x v hv).1) cf hO g ps.toArray m.b 0 m.cap d.toArray w eg hC hH hbl (by simpa using hsz) hT
      have e0 : d.toArray.size = d.length := by simp
      rw [e0] at hlaw
      refine hlaw.mono ?_
      rintro e w' ⟨rfl, n, os, rfl⟩
      generalize hs : (d.mergeSort fun x y => !(ltOf cf) y x) = s at *
      have hsl : s.length = d.length := by rw [← hs]; exact List.length_mergeSort _
      have hms : ∀ x ∈ s.map enc, x.length = k := fun x hx => by obtain ⟨y, _, rfl⟩ := List.mem_map.1 hx; exact hk y
      have hsfl : (s.map enc).flatten.length = d.length * k := by rw [flat_len2 hms, List.length_map, hsl]
      refine ⟨rfl, ⟨rfl, rfl, rfl, size_sort, fun b hb hne => heap_sort_other hb fun e => hne ⟨hc0, e⟩, .inr ?_⟩, ⟨fun x hx => ?_, by rw [List.length_map, hsl, k2], fun h => by omega, rfl, k5⟩, fun _ => ?_⟩
      · show w.drawn ≤ w.drawn + n
        omega
      · obtain ⟨y, _, rfl⟩ := List.mem_map.1 hx
        rw [List.length_map]; exact hk y
      · have hsize : (flatK enc k s.toArray).size = d.length * k := by simp [hsl]
        have hle : (flatK enc k s.toArray).size ≤ cs.length := by rw [hsize, c3]; exact Nat.mul_le_mul_right _ (by simpa using c1)
        refine ⟨(flatK enc k s.toArray).toList ++ cs.drop (flatK enc k s.toArray).size, ⟨T, ?_⟩, by rw [List.length_map, hsl]; simpa using c1, c2, ?_, (flatK enc k s.toArray).toList, cs.drop (flatK enc k s.toArray).size, rfl, ?_⟩
        · rw [heap_sort hcs, ← put_flat hle]
        · rw [List.length_append, Array.length_toList, List.length_drop]
          omega
        · rw [flatten_v, flatK_toList hk0 hk]
          exact dsR_of_flat fun v hv => by
            obtain ⟨x, hx, hvx⟩ := List.mem_flatten.1 hv
            obtain ⟨z, _, rfl⟩ := List.mem_map.1 hx
            exact h1 z v hvx
end Sx
end Go.Proofs.YtnhljlihchegjaaGreat

/- Fields: the order at a time. No conditions. -/
namespace Go.Proofs.YtnhljlihchegjaaGreat
open Go Go.RowKit Go.Sort Sx
/-- who is ahead at a time: farther, or faster, or of the lesser ID -/
def fx (n m : Int) (p : Pt) : Int := p.a * m + p.b * n
def ldr (n m : Int) (p q : Pt) : Prop := fx n m q < fx n m p ∨ fx n m p = fx n m q ∧ (q.b < p.b ∨ p.b = q.b ∧ p.id < q.id)
instance (n m : Int) (p q : Pt) : Decidable (ldr n m p q) := by unfold ldr; infer_instance
/-- the points of a field, the leader first -/
def srt (n m : Int) (l : List Pt) : List Pt := l.mergeSort fun x y => !decide (ldr n m y x)
theorem leadN_ldr (n m : Int) (p q : Pt) : leadN p.id p.b q.id q.b ((p.a - q.a) * m + (p.b - q.b) * n) > 0 ↔ ldr n m p q := by
  have e : (p.a - q.a) * m + (p.b - q.b) * n = fx n m p - fx n m q := by unfold fx; simp only [Int.sub_mul]; omega
  rw [e]
  unfold ldr leadN cmpN
  generalize fx n m p = x
  generalize fx n m q = y
  (repeat' split) <;> omega
def cfP (n m : Int) (p q : Pt) : Int := if p.id = q.id then 0 else if ldr n m p q then -1 else 1
theorem two02_ne {n m : Int} {p q : Pt} (hp : p.chk = 0) (hq : q.chk = 0) (ht : chk n m = 0) (hne : p.id ≠ q.id) : two02 p.id p.a p.b q.id q.a q.b n m = 0 := by
  unfold two02
  rw [if_pos ⟨hp, hq, ht⟩, if_neg hne]
theorem fsorted1_fnd {n m : Int} {p q : Pt} (hp : p.chk = 0) (hq : q.chk = 0) (ht : chk n m = 0) : FnD Tryz.prog 120 [p.dc, q.dc, .one (.ref [i64 n, i64 m])] (ret1 (cfP n m p q)) := by
  have hcap : ([[i64 n, i64 m]] : List (List D))[0]? = some [i64 n, i64 m] := rfl
  unfold cfP
  by_cases h : p.id = q.id
  · rw [if_pos h]
    refine fn_okD (by kernel_rfl) ty_okD rfl Tryz.func120 rfl (fun _ _ => Tryz.call120 _ _) rfl ?_
    intro hw
    clear hw
    repeat' ((conv => whnf); first | (with_reducible first | refine br_t ?_ | refine br_f ?_ | refine zd ?_ | refine za ?_ | refine zg ?_ | refine zo ?_ | refine zb ?_ | refine zm ?_ | refine zc ?_ | refine ze ?_) | ((with_reducible refine bc_t ?_ ?_); (first | omega | decide)) | ((with_reducible refine bc_f ?_ ?_); (first | omega | decide)) | (with_reducible first | refine bc (fun h => ?_) (fun h => ?_) | refine zt ?_ | refine zf ?_ | refine br_i (fun h => ?_) (fun h => ?_)) | refine zg ?_ | refine zi ?_)
    all_goals conv => whnf
    all_goals rfl
  · rw [if_neg h]
    have H := kAhead_fnd p.id p.a p.b q.id q.a q.b n m
    unfold aheadV at H
    rw [if_pos (two02_ne hp hq ht h)] at H
    simp only [retBI] at H
    by_cases hl : ldr n m p q
    · rw [if_pos hl]
      rw [decide_eq_true ((leadN_ldr n m p q).2 hl)] at H
      refine fn_okD (by kernel_rfl) ty_okD rfl Tryz.func120 rfl (fun _ _ => Tryz.call120 _ _) rfl ?_
      intro hw
      clear hw
      repeat' ((conv => whnf); first | (with_reducible first | refine br_t ?_ | refine br_f ?_ | refine zd ?_ | refine za ?_ | refine zg ?_ | refine zo ?_ | refine zb ?_ | refine zm ?_ | refine zc ?_ | refine ze ?_) | ((with_reducible refine bc_t ?_ ?_); (first | omega | decide)) | ((with_reducible refine bc_f ?_ ?_); (first | omega | decide)) | (with_reducible first | refine bc (fun h => ?_) (fun h => ?_) | refine zt ?_ | refine zf ?_ | refine br_i (fun h => ?_) (fun h => ?_)) | refine zg ?_ | refine zi ?_)
      all_goals conv => whnf
      all_goals rfl
    · rw [if_neg hl]
      rw [decide_eq_false (fun h => hl ((leadN_ldr n m p q).1 h))] at H
      refine fn_okD (by kernel_rfl) ty_okD rfl Tryz.func120 rfl (fun _ _ => Tryz.call120 _ _) rfl ?_
      intro hw
      clear hw
      repeat' ((conv => whnf); first | (with_reducible first | refine br_t ?_ | refine br_f ?_ | refine zd ?_ | refine za ?_ | refine zg ?_ | refine zo ?_ | refine zb ?_ | refine zm ?_ | refine zc ?_ | refine ze ?_) | ((with_reducible refine bc_t ?_ ?_); (first | omega | decide)) | ((with_reducible refine bc_f ?_ ?_); (first | omega | decide)) | (with_reducible first | refine bc (fun h => ?_) (fun h => ?_) | refine zt ?_ | refine zf ?_ | refine br_i (fun h => ?_) (fun h => ?_)) | refine zg ?_ | refine zi ?_)
      all_goals conv => whnf
      all_goals rfl
/-- IDs that differ -/
def apart (l : List Pt) : Prop := ∀ p ∈ l, ∀ q ∈ l, p.id = q.id → p = q
theorem incr_apart {l : List Pt} (h : incr l = true) : apart l := by
  intro p hp q hq e
  obtain ⟨i, hi, rfl⟩ := List.getElem_of_mem hp
  obtain ⟨j, hj, rfl⟩ := List.getElem_of_mem hq
  rcases Nat.lt_trichotomy i j with h1 | h1 | h1
  · have := incr_lt h j i hj h1; omega
  · exact getElem_congr rfl h1 _
  · have := incr_lt h i j hi h1; omega
theorem lt_cfP {n m : Int} {l : List Pt} (ha : apart l) {p q : Pt} (hp : p ∈ l) (hq : q ∈ l) : ltOf (cfP n m) p q = decide (ldr n m p q) := by
  unfold ltOf cfP
  by_cases h : p.id = q.id
  · have := ha p hp q hq h
    subst this
    rw [if_pos rfl]
    have : ¬ ldr n m p p := by unfold ldr; omega
    simp [this]
  · rw [if_neg h]
    by_cases hl : ldr n m p q <;> simp [hl]
theorem sortPt_mu {n m : Int} {l : List Pt} (hl : ∀ p ∈ l, p.chk = 0) (ha : apart l) (ht : chk n m = 0) (hsz : l.length ≤ 1000000) : FnMu Tryz.prog 119 3 (l.map Pt.c) [.one (.clo 120 [[i64 n, i64 m]])] ((srt n m l).map Pt.c) := by
  cases l with
  | nil =>
    have := sort_mu (P := Tryz.prog) (ρ := Tryz.sortPt_ren) (α := Unit) (k := 3) Tryz.sortPt (by decide) Tryz.isAgg30 Tryz.sizeOf30 (fun _ => [.int .i64 0, .int .i64 0, .int .i64 0]) (fun _ => rfl) (fun _ v hv => by simp at hv; subst hv; exact ⟨rfl, WD_v.1 (wd_i64.2 (by omega))⟩) (fun _ _ => 0)
      ⟨fun _ => rfl, fun _ _ _ h => by simp [ltOf] at h, fun _ _ _ _ _ => rfl⟩ (fun _ _ _ _ => rfl) (g := 120) (caps := [[i64 n, i64 m]]) (fun _ _ => Tryz.call120 _ _) (fun _ _ => Tryz.call119 _ _)
      (fun _ _ => by
        have := fsorted1_fnd (n := n) (m := m) (p := ⟨0, 0, 0⟩) (q := ⟨0, 0, 0⟩) rfl rfl ht
        unfold cfP at this
        rw [if_pos rfl] at this
        exact this) [] (by decide)
    simp only [List.map_nil, List.mergeSort_nil] at this
    rw [show srt n m [] = [] by simp [srt]]
    exact this
  | cons y ys =>
    generalize hd : y :: ys = l at *
    have : Inhabited {p : Pt // p ∈ l} := ⟨⟨y, by rw [← hd]; exact List.mem_cons_self ..⟩⟩
    have key := sort_mu (P := Tryz.prog) (ρ := Tryz.sortPt_ren) (α := {p : Pt // p ∈ l}) (k := 3) Tryz.sortPt (by decide) Tryz.isAgg30 Tryz.sizeOf30 (fun p => [.int .i64 p.1.id, .int .i64 p.1.a, .int .i64 p.1.b]) (fun _ => rfl) (fun p v hv => by
        have hc := cpt_ok (hl p.1 p.2)
        simp at hv
        rcases hv with rfl | rfl | rfl
        all_goals exact ⟨rfl, WD_v.1 (wd_i64.2 (by omega))⟩) (fun p q => cfP n m p.1 q.1)
      ⟨fun p => ?_, fun p q r h1 h2 => ?_, fun p q r h1 h2 => ?_⟩ (fun p q h1 h2 => ?_) (g := 120) (caps := [[i64 n, i64 m]]) (fun _ _ => Tryz.call120 _ _) (fun _ _ => Tryz.call119 _ _)
      (fun p q => fsorted1_fnd (hl p.1 p.2) (hl q.1 q.2) ht) l.attach (by simp; omega)
    · have e1 : (l.attach.map fun p => ([.int .i64 p.1.id, .int .i64 p.1.a, .int .i64 p.1.b] : List Value).map D.v) = l.map Pt.c := by
        rw [show (fun p : {p : Pt // p ∈ l} => ([.int .i64 p.1.id, .int .i64 p.1.a, .int .i64 p.1.b] : List Value).map D.v) = Pt.c ∘ Subtype.val from rfl, ← List.map_map, List.attach_map_subtype_val]
      have e2 : ((l.attach.mergeSort fun x y => !(ltOf fun p q : {p : Pt // p ∈ l} => cfP n m p.1 q.1) y x).map fun p => ([.int .i64 p.1.id, .int .i64 p.1.a, .int .i64 p.1.b] : List Value).map D.v) = (srt n m l).map Pt.c := by
        rw [show (fun p : {p : Pt // p ∈ l} => ([.int .i64 p.1.id, .int .i64 p.1.a, .int .i64 p.1.b] : List Value).map D.v) = Pt.c ∘ Subtype.val from rfl, ← List.map_map]
        rw [List.map_mergeSort (s := fun x y => !decide (ldr n m y x)) (fun a _ b _ => by
          have := lt_cfP (n := n) (m := m) ha b.2 a.2
          unfold ltOf at this ⊢
          rw [this]), List.attach_map_subtype_val]
        rfl
      rw [e1, e2] at key
      exact key
    · exact (lt_cfP ha p.2 p.2).trans (decide_eq_false (by unfold ldr; omega))
    · have k1 := of_decide_eq_true ((lt_cfP ha p.2 q.2).symm.trans h1)
      have k2 := of_decide_eq_true ((lt_cfP ha q.2 r.2).symm.trans h2)
      exact (lt_cfP ha p.2 r.2).trans (decide_eq_true (by unfold ldr at *; omega))
    · have k1 := of_decide_eq_false ((lt_cfP ha p.2 q.2).symm.trans h1)
      have k2 := of_decide_eq_false ((lt_cfP ha q.2 r.2).symm.trans h2)
      exact (lt_cfP ha p.2 r.2).trans (decide_eq_false (by unfold ldr at *; omega))
    · have k1 := of_decide_eq_false ((lt_cfP ha p.2 q.2).symm.trans h1)
      have k2 := of_decide_eq_false ((lt_cfP ha q.2 p.2).symm.trans h2)
      exact Subtype.ext (ha _ p.2 _ q.2 (by unfold ldr at *; omega))
end Go.Proofs.YtnhljlihchegjaaGreat

/- Fields: leader and order, the walks. No conditions. -/
namespace Go.Proofs.YtnhljlihchegjaaGreat
open Go Go.RowKit Go.Sort Sx
/-- errors of a field and a time -/
def tchk (l : List Pt) (n m : Int) : Int := if fchk l = 0 then chk n m else fchk l
abbrev retL (l : List Pt) (e : Int) : DV := .tup [.one (pts l), .one (i64 e)]
theorem fsorted_fn (l : List Pt) (n m : Int) : FnOK Tryz.prog 80 [fld l, rat n m] (if tchk l n m = 0 then retL (srt n m l) 0 else retL [] (tchk l n m)) := by
  have H1 := fCheck_fn l
  have H2 := check_fn n m
  unfold tchk
  by_cases h1 : fchk l = 0
  · obtain ⟨k1, k2, k3⟩ := fchk_ok h1
    simp only [if_pos h1]
    rw [h1] at H1
    by_cases h2 : chk n m = 0
    · rw [if_pos h2]
      rw [h2] at H2
      have H3 := clonePt_own (l.map Pt.c) (by simp; omega)
      have H4 := sortPt_mu (n := n) (m := m) k2 (incr_apart k3) h2 (by omega)
      refine fn_ok (by kernel_rfl) (ty_okK [21] [119] [] []) Tryz.func80 rfl (fun _ _ => Tryz.call80 _ _) rfl ?_
      intro hw
      clear hw
      exact zw
    · rw [if_neg h2]
      have h8 : chk n m = 8 := (chk_08 n m).resolve_left h2
      rw [h8] at H2 ⊢
      refine fn_ok (by kernel_rfl) ty_ok Tryz.func80 rfl (fun _ _ => Tryz.call80 _ _) rfl ?_
      intro hw
      clear hw
      exact zw
  · simp only [if_neg h1]
    generalize fchk l = z at *
    refine fn_ok (by kernel_rfl) ty_ok Tryz.func80 rfl (fun _ _ => Tryz.call80 _ _) rfl ?_
    intro hw
    clear hw
    exact zw
/-- the leader -/
def leadV (l : List Pt) (n m : Int) : Int × Int := if tchk l n m = 0 then (if l.length = 0 then (0, 42) else (((srt n m l)[0]?.getD default).id, 0)) else (0, tchk l n m)
theorem fLeader_fn (l : List Pt) (n m : Int) : FnOK Tryz.prog 38 [fld l, rat n m] (ret2 (leadV l n m)) := by
  refine fn_ok (by kernel_rfl) ty_ok Tryz.func38 rfl (fun _ _ => Tryz.call38 _ _) rfl ?_
  intro hw
  clear hw
  have H := fsorted_fn l n m
  unfold leadV
  by_cases h : tchk l n m = 0
  · rw [if_pos h] at H ⊢
    have hl : (srt n m l).length = l.length := List.length_mergeSort _
    by_cases h0 : l.length = 0
    · rw [if_pos h0]
      repeat' ((conv => whnf); first | (with_reducible first | refine br_t ?_ | refine br_f ?_ | refine za ?_ | refine zg ?_ | refine zo ?_ | refine zb ?_ | refine zm ?_ | refine zc ?_ | refine ze ?_) | rw [List.length_map] | ((with_reducible refine bc_t ?_ ?_); (first | omega | decide)) | ((with_reducible refine bc_f ?_ ?_); (first | omega | decide)) | (with_reducible first | refine bc (fun h => ?_) (fun h => ?_) | refine zt ?_ | refine zf ?_ | refine br_i (fun h => ?_) (fun h => ?_)) | refine zg ?_ | refine zi ?_)
      all_goals conv => whnf
      all_goals rfl
    · rw [if_neg h0]
      have hlt : 0 < (srt n m l).length := by omega
      have hel := pts_get hlt
      rw [List.getElem?_eq_getElem hlt]
      repeat' ((conv => whnf); first | (with_reducible first | refine br_t ?_ | refine br_f ?_ | refine za ?_ | refine zg ?_ | refine zo ?_ | refine zb ?_ | refine zm ?_ | refine zc ?_ | refine ze ?_) | rw [List.length_map] | ((with_reducible refine bc_t ?_ ?_); (first | omega | decide)) | ((with_reducible refine bc_f ?_ ?_); (first | omega | decide)) | (with_reducible first | refine bc (fun h => ?_) (fun h => ?_) | refine zt ?_ | refine zf ?_ | refine br_i (fun h => ?_) (fun h => ?_)) | refine zg ?_ | refine zi ?_)
      all_goals conv => whnf
      all_goals rfl
  · rw [if_neg h] at H ⊢
    generalize tchk l n m = z at *
    exact zw
end Go.Proofs.YtnhljlihchegjaaGreat

/- Fields: the reference's order is the sorted one. No conditions. -/
namespace Go.Proofs.YtnhljlihchegjaaGreat
open Go Go.RowKit Go.Sort Sx
theorem srt_perm (n m : Int) (l : List Pt) : (srt n m l).Perm l := List.mergeSort_perm l _
theorem srt_len (n m : Int) (l : List Pt) : (srt n m l).length = l.length := List.length_mergeSort _
abbrev ints (l : List Int) : D := .list 1 (l.map fun i => [i64 i])
def ordV (l : List Pt) (n m : Int) : List Int := (srt n m l).map Pt.id
end Go.Proofs.YtnhljlihchegjaaGreat

/- Fields: leader, order, finding, the reference's. No conditions. -/
namespace Go.Proofs.YtnhljlihchegjaaGreat
open Go Go.RowKit Go.Sort Sx
theorem tchk_ok {l : List Pt} {n m : Int} (h : tchk l n m = 0) : fchk l = 0 ∧ chk n m = 0 := by
  unfold tchk at h
  split at h
  · exact ⟨by assumption, h⟩
  · omega
theorem ints_get {l : List Int} {i : Nat} (h : i < l.length) : (l.map fun i => [i64 i])[((i : Nat) : Int).toNat]? = some [i64 l[i]] := by
  rw [Int.toNat_natCast, List.getElem?_map, List.getElem?_eq_getElem h]; rfl
def orderV (l : List Pt) (n m : Int) : List Int × Int := if tchk l n m = 0 then (ordV l n m, 0) else ([], tchk l n m)
abbrev retO (x : List Int × Int) : DV := .tup [.one (ints x.1), .one (i64 x.2)]
def outI (s : List Pt) (i : Nat) : List (List D) := (s.take i).map (fun p => [i64 p.id]) ++ List.replicate (s.length - i) [i64 0]
theorem outI_get {s : List Pt} {i : Nat} (h : i < s.length) : (outI s i)[((i : Nat) : Int).toNat]? = some [i64 0] := by
  rw [Int.toNat_natCast, outI, List.getElem?_append_right (by simp; omega), List.getElem?_replicate, if_pos (by simp; omega)]
theorem outI_set {s : List Pt} {i : Nat} (h : i < s.length) : (outI s i).set ((i : Nat) : Int).toNat [i64 s[i].id] = outI s (i + 1) := by
  rw [Int.toNat_natCast]
  unfold outI
  have hk : s.length - i = (s.length - (i + 1)) + 1 := by omega
  rw [List.take_succ_eq_append_getElem h, hk, List.replicate_succ, List.set_append_right _ _ (by simp; omega)]
  have h0 : i - ((s.take i).map fun p : Pt => [i64 p.id]).length = 0 := by simp; omega
  rw [h0, List.map_append, List.append_assoc]
  rfl
theorem outI_len {s : List Pt} {i : Nat} (h : i ≤ s.length) : (outI s i).length = s.length := by simp [outI]; omega
theorem fOrder_fn (l : List Pt) (n m : Int) : FnOK Tryz.prog 58 [fld l, rat n m] (retO (orderV l n m)) := by
  refine fn_ok (by kernel_rfl) (ty_okK [22] [] [] []) Tryz.func58 rfl (fun _ _ => Tryz.call58 _ _) rfl ?_
  intro hw
  clear hw
  have H := fsorted_fn l n m
  unfold orderV
  by_cases h : tchk l n m = 0
  · rw [if_pos h] at H ⊢
    obtain ⟨k1, k2, k3⟩ := fchk_ok (tchk_ok h).1
    have hl : (srt n m l).length = l.length := srt_len n m l
    have e : (ordV l n m).map (fun i => [i64 i]) = outI (srt n m l) (srt n m l).length := by simp [outI, ordV]
    generalize srt n m l = s at *
    repeat' ((conv => whnf); first | (with_reducible first | refine br_t ?_ | refine br_f ?_ | refine za ?_ | refine zg ?_ | refine zo ?_ | refine zb ?_ | refine zm ?_ | refine zc ?_ | refine ze ?_) | rw [List.length_map] | ((with_reducible refine bc_t ?_ ?_); (first | omega | decide)) | ((with_reducible refine bc_f ?_ ?_); (first | omega | decide)) | (with_reducible first | refine bc (fun h => ?_) (fun h => ?_) | refine zt ?_ | refine zf ?_ | refine br_i (fun h => ?_) (fun h => ?_)) | refine zg ?_ | refine zi ?_)
    refine loop_J (by kernel_rfl) (ty_okK [22] [] [] []) (σ := Nat) (fun i => [(25, sV (.int .i64 i))]) (fun i => [(22, .row 1 (outI s i) 0)]) (fun i => i ≤ s.length) (fun i => s.length - i) 0 (Nat.zero_le _) ?_ ?_
    · (conv => whnf); exact zent
    intro i hi
    have hol := outI_len hi
    rcases Nat.lt_or_ge i s.length with hlt | hge
    · have hel := pts_get hlt
      have hel2 := outI_get hlt
      repeat' ((conv => whnf); first | (with_reducible first | refine br_t ?_ | refine br_f ?_ | refine za ?_ | refine zg ?_ | refine zo ?_ | refine zb ?_ | refine zm ?_ | refine zc ?_ | refine ze ?_) | rw [List.length_map] | ((with_reducible refine bc_t ?_ ?_); (first | omega | decide)) | ((with_reducible refine bc_f ?_ ?_); (first | omega | decide)) | (with_reducible first | refine bc (fun h => ?_) (fun h => ?_) | refine zt ?_ | refine zf ?_ | refine br_i (fun h => ?_) (fun h => ?_)) | refine zg ?_ | refine zi ?_)
      all_goals conv => whnf
      refine ⟨i + 1, by omega, ?_, by omega⟩
      (conv => whnf); refine ⟨by repeat' (first | with_reducible exact zE0 | with_reducible refine zE1 ?_ ?_ | rfl | assumption | (exact congrArg (fun x => some (Blk.row 1 x 0)) (outI_set hlt)) | (refine ent_i ?_; (first | omega | (rw [IntWalk.i64_in _ (by omega)]; omega) | (simp; done))) | (refine ent_b ?_; (first | omega | (rw [IntWalk.i64_in _ (by omega)]; omega) | (simp; done)))), by repeat' (first | with_reducible exact zH0 | with_reducible refine zH1 ?_ ?_ | rfl | assumption | (exact congrArg (fun x => some (Blk.row 1 x 0)) (outI_set hlt))), rfl⟩
    · obtain rfl : i = s.length := by omega
      repeat' ((conv => whnf); first | (with_reducible first | refine br_t ?_ | refine br_f ?_ | refine za ?_ | refine zg ?_ | refine zo ?_ | refine zb ?_ | refine zm ?_ | refine zc ?_ | refine ze ?_) | rw [List.length_map] | ((with_reducible refine bc_t ?_ ?_); (first | omega | decide)) | ((with_reducible refine bc_f ?_ ?_); (first | omega | decide)) | (with_reducible first | refine bc (fun h => ?_) (fun h => ?_) | refine zt ?_ | refine zf ?_ | refine br_i (fun h => ?_) (fun h => ?_)) | refine zg ?_ | refine zi ?_)
      all_goals conv => whnf
      all_goals exact congrArg (fun x => DV.tup [.one (.list 1 x), .one (i64 0)]) e.symm
  · rw [if_neg h] at H ⊢
    generalize tchk l n m = z at *
    exact zw
def findV (l : List Pt) (id : Int) : Pt × Int := if fchk l = 0 then (if has l id then (l[pos l id]?.getD default, 0) else (⟨0, 0, 0⟩, 6)) else (⟨0, 0, 0⟩, fchk l)
abbrev retPt (x : Pt × Int) : DV := .tup [x.1.dc, .one (i64 x.2)]
theorem fFind_fn (l : List Pt) (id : Int) : FnOK Tryz.prog 39 [fld l, .one (i64 id)] (retPt (findV l id)) := by
  refine fn_ok (by kernel_rfl) ty_ok Tryz.func39 rfl (fun _ _ => Tryz.call39 _ _) rfl ?_
  intro hw
  clear hw
  have H := fplace_fn l id
  unfold findV
  unfold placeV at H
  by_cases h0 : fchk l = 0
  · obtain ⟨k1, k2, k3⟩ := fchk_ok h0
    rw [if_pos h0] at H ⊢
    cases hh : has l id
    · rw [hh, if_neg (by decide)] at H
      repeat' ((conv => whnf); first | (with_reducible first | refine br_t ?_ | refine br_f ?_ | refine za ?_ | refine zg ?_ | refine zo ?_ | refine zb ?_ | refine zm ?_ | refine zc ?_ | refine ze ?_) | rw [List.length_map] | ((with_reducible refine bc_t ?_ ?_); (first | omega | decide)) | ((with_reducible refine bc_f ?_ ?_); (first | omega | decide)) | (with_reducible first | refine bc (fun h => ?_) (fun h => ?_) | refine zt ?_ | refine zf ?_ | refine br_i (fun h => ?_) (fun h => ?_)) | refine zg ?_ | refine zi ?_)
      all_goals conv => whnf
      all_goals rfl
    · rw [hh, if_pos rfl] at H
      obtain ⟨hlt, _⟩ := (has_pos k3).1 hh
      have hel := pts_get hlt
      rw [if_pos rfl, List.getElem?_eq_getElem hlt]
      repeat' ((conv => whnf); first | (with_reducible first | refine br_t ?_ | refine br_f ?_ | refine za ?_ | refine zg ?_ | refine zo ?_ | refine zb ?_ | refine zm ?_ | refine zc ?_ | refine ze ?_) | rw [List.length_map] | ((with_reducible refine bc_t ?_ ?_); (first | omega | decide)) | ((with_reducible refine bc_f ?_ ?_); (first | omega | decide)) | (with_reducible first | refine bc (fun h => ?_) (fun h => ?_) | refine zt ?_ | refine zf ?_ | refine br_i (fun h => ?_) (fun h => ?_)) | refine zg ?_ | refine zi ?_)
      all_goals conv => whnf
      all_goals rfl
  · rw [if_neg h0] at H ⊢
    generalize fchk l = z at *
    exact zw
end Go.Proofs.YtnhljlihchegjaaGreat

/- The past: what there is at a time. No conditions. -/
namespace Go.Proofs.YtnhljlihchegjaaGreat
open Go.RowKit Go.Sort Sx
theorem qv_lt {p q r t : Int} (h1 : chk p q = 0) (h2 : chk r t = 0) : qv p q < qv r t ↔ p * t < r * q := by
  have e1 := Rat.lt_iff (qv p q) (qv r t)
  rw [qv_num h1, qv_num h2, qv_den h1, qv_den h2] at e1
  exact e1
theorem rlt_trans {a b c : Rat} (h1 : a < b) (h2 : b < c) : a < c := Std.lt_trans h1 h2
/-- how many moments are before a time -/
def tpos : List Md → Int → Int → Nat
  | [], _, _ => 0
  | m :: l, n, e => if m.n * e < n * m.d then tpos l n e + 1 else 0
theorem tpos_eq : ∀ {l : List Md} {n e : Int} {i : Nat}, i ≤ l.length → (∀ k (h : k < l.length), k < i → l[k].n * e < n * l[k].d) → (∀ k (h : k < l.length), i ≤ k → n * l[k].d ≤ l[k].n * e) → tpos l n e = i
  | [], n, e, i, hi, _, _ => by simp at hi; simp [tpos, hi]
  | m :: l, n, e, 0, hi, h1, h2 => by
    have := h2 0 (by simp) (Nat.le_refl _)
    simp at this
    rw [tpos, if_neg (by omega)]
  | m :: l, n, e, i + 1, hi, h1, h2 => by
    have := h1 0 (by simp) (by omega)
    simp at this
    rw [tpos, if_pos this, tpos_eq (by simpa using hi) (fun k h hk => h1 (k + 1) (by simpa using h) (by omega)) (fun k h hk => h2 (k + 1) (by simpa using h) (by omega))]
def tcmp (m : Md) (n e : Int) : Int := cmpN (m.n * e) (n * m.d)
def tfnd (l : List Md) (n e : Int) : Bool := match l[tpos l n e]? with | some m => decide (tcmp m n e = 0) | none => false
/-- moments of a valid past: their times go up -/
structure Ups (l : List Md) : Prop where
  ok : ∀ i (h : i < l.length), chk l[i].n l[i].d = 0
  up : ∀ j i (hj : j < l.length) (hij : i < j), qv l[i].n l[i].d < qv l[j].n l[j].d
theorem ups_of {p : Pa} (h : pchk p = 0) : Ups p.ms := by
  obtain ⟨h1, h2, h3, h4, h5⟩ := pchk_ok h
  have hok : ∀ i (h : i < p.ms.length), chk p.ms[i].n p.ms[i].d = 0 := fun i hi => askd_chk (mchk_ok (h5 _ (List.getElem_mem hi))).1
  refine ⟨hok, fun j => ?_⟩
  have hadj := ((pgo_iff (n := p.n) (d := p.d) (l := p.ms) (i := 0) rfl (by omega)).1 (by rw [List.drop_zero]; exact h4)).2.1
  induction j with
  | zero => intro i _ h; omega
  | succ j ih =>
    intro i hj hij
    have h6 := (qv_lt (hok j (by omega)) (hok (j + 1) hj)).2 (hadj j hj (Nat.zero_le _))
    rcases Nat.lt_or_ge i j with h | h
    · exact rlt_trans (ih i (by omega) h) h6
    · have : i = j := by omega
      subst this; exact h6
theorem pWhat1_fn (m : Md) (n e : Int) (h1 : chk m.n m.d = 0) (h2 : chk n e = 0) : FnOK Tryz.prog 98 [m.dc, rat n e] (ret1 (tcmp m n e)) := by
  refine fn_ok (by kernel_rfl) ty_ok Tryz.func98 rfl (fun _ _ => Tryz.call98 _ _) rfl ?_
  intro hw
  clear hw
  have H := cmp_chk h1 h2
  unfold tcmp
  generalize cmpN (m.n * e) (n * m.d) = z at *
  exact zw
theorem bsMo_fn (l : List Md) (n e : Int) (hs : Ups l) (ht : chk n e = 0) (hl : l.length ≤ 1000000) : FnOK Tryz.prog 97 [.one (mos l), rat n e, .one (.clo 98 [])] (.tup [.one (i64 (tpos l n e : Nat)), .one (bol (tfnd l n e))]) := by
  refine fn_ok (by kernel_rfl) ty_ok Tryz.func97 rfl (fun _ _ => Tryz.call97 _ _) rfl ?_
  intro hw
  clear hw
  have hln : (l.map Md.c).length = l.length := List.length_map ..
  repeat' ((conv => whnf); first | (with_reducible first | refine br_t ?_ | refine br_f ?_ | refine za ?_ | refine zg ?_ | refine zo ?_ | refine zb ?_ | refine zm ?_ | refine zc ?_ | refine ze ?_) | ((with_reducible refine bc_t ?_ ?_); (first | omega | decide)) | ((with_reducible refine bc_f ?_ ?_); (first | omega | decide)) | (with_reducible first | refine bc (fun h => ?_) (fun h => ?_) | refine zt ?_ | refine zf ?_ | refine br_i (fun h => ?_) (fun h => ?_)) | refine zg ?_ | refine zi ?_)
  refine loop_J (by kernel_rfl) ty_ok (σ := Nat × Nat) (fun s => [(9, sV (.int .i64 s.1)), (10, sV (.int .i64 s.2))]) (fun _ => [])
    (fun s => s.1 ≤ s.2 ∧ s.2 ≤ l.length ∧ (∀ k (h : k < l.length), k < s.1 → l[k].n * e < n * l[k].d) ∧ ∀ k (h : k < l.length), s.2 ≤ k → n * l[k].d ≤ l[k].n * e) (fun s => s.2 - s.1) (0, l.length) ⟨by omega, by omega, fun k h hk => absurd hk (Nat.not_lt_zero _), fun k h hk => absurd h (by show ¬ k < l.length; exact Nat.not_lt.2 hk)⟩ ?_ ?_
  · (conv => whnf); exact zent
  rintro ⟨i, j⟩ ⟨h1, h2, h3, h4⟩
  simp only at h1 h2 h3 h4
  rcases Nat.lt_or_ge i j with hlt | hge
  · have hm : (i + j) / 2 < l.length := by omega
    have hmid := mid_eq i j (by omega)
    have hel := mos_get hm
    have HC := pWhat1_fn l[(i + j) / 2] n e (hs.ok _ hm) ht
    unfold tcmp at HC
    have q0 := qv_lt (hs.ok _ hm) ht
    rcases (show l[(i + j) / 2].n * e < n * l[(i + j) / 2].d ∨ n * l[(i + j) / 2].d ≤ l[(i + j) / 2].n * e by omega) with hc | hc
    · have ec : cmpN (l[(i + j) / 2].n * e) (n * l[(i + j) / 2].d) = -1 := if_pos hc
      rw [ec] at HC
      have hN : ∀ k (h : k < l.length), k < (i + j) / 2 + 1 → l[k].n * e < n * l[k].d := fun k h hk => by
        rcases Nat.lt_or_ge k ((i + j) / 2) with h5 | h5
        · exact (qv_lt (hs.ok k h) ht).1 (rlt_trans (hs.up _ _ hm h5) (q0.2 hc))
        · have : k = (i + j) / 2 := by omega
          subst this; exact hc
      clear hc ec q0
      repeat' ((conv => whnf); first | (with_reducible first | refine br_t ?_ | refine br_f ?_ | refine za ?_ | refine zg ?_ | refine zo ?_ | refine zb ?_ | refine zm ?_ | refine zc ?_ | refine ze ?_) | rw [hmid] | ((with_reducible refine bc_t ?_ ?_); (first | omega | decide)) | ((with_reducible refine bc_f ?_ ?_); (first | omega | decide)) | (with_reducible first | refine bc (fun h => ?_) (fun h => ?_) | refine zt ?_ | refine zf ?_ | refine br_i (fun h => ?_) (fun h => ?_)) | refine zg ?_ | refine zi ?_)
      all_goals conv => whnf
      refine ⟨((i + j) / 2 + 1, j), ⟨by show _ ≤ _; omega, h2, hN, h4⟩, ?_, by show _ - _ < _ - _; omega⟩
      (conv => whnf); exact zent
    · have ec : 0 ≤ cmpN (l[(i + j) / 2].n * e) (n * l[(i + j) / 2].d) := by unfold cmpN; split <;> (try split) <;> omega
      have hN : ∀ k (h : k < l.length), (i + j) / 2 ≤ k → n * l[k].d ≤ l[k].n * e := fun k h hk => by
        rcases Nat.lt_or_ge ((i + j) / 2) k with h5 | h5
        · have h6 := hs.up k _ h h5
          have h7 : ¬ qv l[k].n l[k].d < qv n e := fun h8 => by
            have := q0.1 (rlt_trans h6 h8); omega
          rw [qv_lt (hs.ok k h) ht] at h7; omega
        · have : k = (i + j) / 2 := by omega
          subst this; exact hc
      generalize cmpN (l[(i + j) / 2].n * e) (n * l[(i + j) / 2].d) = c at HC ec
      clear hc q0
      repeat' ((conv => whnf); first | (with_reducible first | refine br_t ?_ | refine br_f ?_ | refine za ?_ | refine zg ?_ | refine zo ?_ | refine zb ?_ | refine zm ?_ | refine zc ?_ | refine ze ?_) | rw [hmid] | ((with_reducible refine bc_t ?_ ?_); (first | omega | decide)) | ((with_reducible refine bc_f ?_ ?_); (first | omega | decide)) | (with_reducible first | refine bc (fun h => ?_) (fun h => ?_) | refine zt ?_ | refine zf ?_ | refine br_i (fun h => ?_) (fun h => ?_)) | refine zg ?_ | refine zi ?_)
      all_goals conv => whnf
      refine ⟨(i, (i + j) / 2), ⟨by show _ ≤ _; omega, by show _ ≤ _; omega, h3, hN⟩, ?_, by show _ - _ < _ - _; omega⟩
      (conv => whnf); exact zent
  · have eij : i = j := by omega
    subst eij
    have hp := tpos_eq h2 h3 h4
    unfold tfnd
    rw [hp]
    clear h3 h4
    rcases Nat.lt_or_ge i l.length with hlt | hge2
    · have hel := mos_get hlt
      have HC := pWhat1_fn l[i] n e (hs.ok i hlt) ht
      rw [List.getElem?_eq_getElem hlt]
      simp only
      generalize tcmp l[i] n e = c at HC
      by_cases hc : c = 0
      all_goals
        repeat' ((conv => whnf); first | (with_reducible first | refine br_t ?_ | refine br_f ?_ | refine za ?_ | refine zg ?_ | refine zo ?_ | refine zb ?_ | refine zm ?_ | refine zc ?_ | refine ze ?_) | ((with_reducible refine bc_t ?_ ?_); (first | omega | decide)) | ((with_reducible refine bc_f ?_ ?_); (first | omega | decide)) | (with_reducible first | refine bc (fun h => ?_) (fun h => ?_) | refine zt ?_ | refine zf ?_ | refine br_i (fun h => ?_) (fun h => ?_)) | refine zg ?_ | refine zi ?_)
        all_goals conv => whnf
        all_goals simp [hc]
    · rw [List.getElem?_eq_none hge2]
      exact zw
end Go.Proofs.YtnhljlihchegjaaGreat

/- The past: What, Leader, Order. No conditions. -/
namespace Go.Proofs.YtnhljlihchegjaaGreat
open Go.RowKit Go.Sort Sx
def wcnt (l : List Md) (n e : Int) : Nat := tpos l n e + if tfnd l n e then 1 else 0
def whatV (p : Pa) (n e : Int) : List Pt × Int :=
  if pchk p = 0 then (if askd n e = 0 then (if p.n * e < n * p.d then ([], 6) else if wcnt p.ms n e = 0 then ([], 6) else ((p.ms[wcnt p.ms n e - 1]?.getD default).l, 0)) else ([], 8)) else ([], 8)
abbrev retW (x : List Pt × Int) : DV := .tup [fld x.1, .one (i64 x.2)]
theorem tpos_le : ∀ (l : List Md) (n e : Int), tpos l n e ≤ l.length
  | [], _, _ => Nat.le_refl _
  | m :: l, n, e => by rw [tpos]; split <;> simp [tpos_le l n e]
theorem tpos_spec : ∀ {l : List Md} {n e : Int}, (∀ k (h : k < l.length), k < tpos l n e → l[k].n * e < n * l[k].d) ∧ ∀ (h : tpos l n e < l.length), ¬ l[tpos l n e].n * e < n * l[tpos l n e].d
  | [], n, e => ⟨fun k h => by simp at h, fun h => by simp at h⟩
  | m :: l, n, e => by
    by_cases hp : m.n * e < n * m.d
    · obtain ⟨h1, h2⟩ := tpos_spec (l := l) (n := n) (e := e)
      have et : tpos (m :: l) n e = tpos l n e + 1 := by rw [tpos, if_pos hp]
      refine ⟨fun k h hk => ?_, fun h => ?_⟩
      · cases k with
        | zero => exact hp
        | succ k => simpa using h1 k (by simpa using h) (by omega)
      · have := h2 (by simp only [et, List.length_cons] at h; omega)
        simp only [et, List.getElem_cons_succ]
        exact this
    · have et : tpos (m :: l) n e = 0 := by rw [tpos, if_neg hp]
      refine ⟨fun k h hk => by omega, fun h => ?_⟩
      simp only [et, List.getElem_cons_zero]
      exact hp
theorem tfnd_lt {l : List Md} {n e : Int} (h : tfnd l n e = true) : ∃ h : tpos l n e < l.length, tcmp l[tpos l n e] n e = 0 := by
  unfold tfnd at h
  split at h
  · rename_i m hm
    obtain ⟨h1, rfl⟩ := List.getElem?_eq_some_iff.1 hm
    exact ⟨h1, of_decide_eq_true h⟩
  · cases h
theorem wcnt_le (l : List Md) (n e : Int) : wcnt l n e ≤ l.length := by
  unfold wcnt
  have := tpos_le l n e
  cases h : tfnd l n e
  · simpa using this
  · obtain ⟨h1, _⟩ := tfnd_lt h
    simp; omega
theorem wcnt_iff {l : List Md} {n e : Int} (hs : Ups l) (ht : chk n e = 0) {i : Nat} (hi : i < l.length) : cmpN (l[i].n * e) (n * l[i].d) ≤ 0 ↔ i < wcnt l n e := by
  obtain ⟨h1, h2⟩ := tpos_spec (l := l) (n := n) (e := e)
  have hq := qv_lt (hs.ok i hi) ht
  rcases Nat.lt_trichotomy i (tpos l n e) with h | h | h
  · have := h1 i hi h
    have k : cmpN (l[i].n * e) (n * l[i].d) = -1 := if_pos this
    rw [k]
    unfold wcnt
    constructor
    · intro _; omega
    · intro _; omega
  · have hlt : tpos l n e < l.length := by omega
    have h3 := h2 hlt
    have h5 : tfnd l n e = decide (tcmp l[tpos l n e] n e = 0) := by unfold tfnd; rw [List.getElem?_eq_getElem hlt]
    have h6 : 0 ≤ tcmp l[tpos l n e] n e := by unfold tcmp cmpN; rw [if_neg h3]; split <;> omega
    have h7 : cmpN (l[i].n * e) (n * l[i].d) = tcmp l[tpos l n e] n e := by unfold tcmp; simp only [h]
    rw [h7]
    unfold wcnt
    rw [h5]
    by_cases hc : tcmp l[tpos l n e] n e = 0
    · simp [hc]; omega
    · simp [hc]; omega
  · have hlt : tpos l n e < l.length := by omega
    have h3 := h2 hlt
    have h4 := hs.up i (tpos l n e) hi h
    have q2 := qv_lt (hs.ok _ hlt) ht
    have q3 := qv_lt ht (hs.ok i hi)
    have h5 : n * l[i].d < l[i].n * e := by
      rcases Int.lt_or_le (n * l[i].d) (l[i].n * e) with h6 | h6
      · exact h6
      · exfalso
        have h7 : ¬ qv n e < qv l[i].n l[i].d := fun h8 => by have := q3.1 h8; omega
        have h8 : qv l[i].n l[i].d ≤ qv n e := Rat.not_lt.1 h7
        exact h3 (q2.1 (Std.lt_of_lt_of_le h4 h8))
    have k : cmpN (l[i].n * e) (n * l[i].d) = 1 := by unfold cmpN; rw [if_neg (by omega), if_pos h5]
    rw [k]
    unfold wcnt
    constructor
    · intro h; omega
    · intro h6; split at h6 <;> omega
set_option maxHeartbeats 2000000 in
theorem pWhat_fn (p : Pa) (n e : Int) : FnOK Tryz.prog 53 [p.dc, rat n e] (retW (whatV p n e)) := by
  have H1 := pCheck_fn p
  have H2 := asked_fn n e
  unfold whatV
  by_cases h1 : pchk p = 0
  · rw [if_pos h1]
    rw [h1] at H1
    by_cases h2 : askd n e = 0
    · rw [if_pos h2]
      rw [h2] at H2
      have ht := askd_chk h2
      obtain ⟨k1, k2, k3, k4, k5⟩ := pchk_ok h1
      have hu := ups_of h1
      have H3 := cmp_chk ht (askd_chk k3)
      by_cases h3 : p.n * e < n * p.d
      · rw [if_pos h3]
        have e3 : cmpN (n * p.d) (p.n * e) = 1 := by unfold cmpN; rw [if_neg (by omega), if_pos h3]
        rw [e3] at H3
        refine fn_ok (by kernel_rfl) ty_ok Tryz.func53 rfl (fun _ _ => Tryz.call53 _ _) rfl ?_
        intro hw
        clear hw h3 e3
        exact zw
      · rw [if_neg h3]
        have e3 : cmpN (n * p.d) (p.n * e) ≤ 0 := by unfold cmpN; split <;> (try split) <;> omega
        generalize cmpN (n * p.d) (p.n * e) = z at H3 e3
        clear h3
        have H4 := bsMo_fn p.ms n e hu ht (by omega)
        have hle := tpos_le p.ms n e
        have hln : (p.ms.map Md.c).length = p.ms.length := List.length_map ..
        cases hf : tfnd p.ms n e
        · have ew : wcnt p.ms n e = tpos p.ms n e := by unfold wcnt; rw [hf]; rfl
          rw [ew]
          rw [hf] at H4
          by_cases h0 : tpos p.ms n e = 0
          · rw [if_pos h0]
            rw [h0] at H4
            refine fn_ok (by kernel_rfl) ty_ok Tryz.func53 rfl (fun _ _ => Tryz.call53 _ _) rfl ?_
            intro hw
            clear hw
            exact zw
          · rw [if_neg h0]
            have hlt : tpos p.ms n e - 1 < p.ms.length := by omega
            generalize tpos p.ms n e = k at *
            have ewr : IntKind.i64.wrap ((k : Int) - 1) = ((k - 1 : Nat) : Int) := by rw [IntWalk.i64_in _ (by omega)]; omega
            have hel := mos_get' (l := p.ms) (i := k - 1) (j := IntKind.i64.wrap ((k : Int) - 1)) hlt (by rw [ewr]; omega)
            rw [List.getElem?_eq_getElem hlt]
            have H5 := pcopied_fn p.ms[k - 1].l (by have := mchk_len (k5 _ (List.getElem_mem hlt)); omega)
            refine fn_ok (by kernel_rfl) ty_ok Tryz.func53 rfl (fun _ _ => Tryz.call53 _ _) rfl ?_
            intro hw
            clear hw
            exact zw
        · obtain ⟨hlt, _⟩ := tfnd_lt hf
          have ew : wcnt p.ms n e = tpos p.ms n e + 1 := by unfold wcnt; rw [hf]; rfl
          rw [ew, if_neg (by omega), Nat.add_sub_cancel]
          rw [hf] at H4
          have hel := mos_get hlt
          rw [List.getElem?_eq_getElem hlt]
          have H5 := pcopied_fn p.ms[tpos p.ms n e].l (by have := mchk_len (k5 _ (List.getElem_mem hlt)); omega)
          refine fn_ok (by kernel_rfl) ty_ok Tryz.func53 rfl (fun _ _ => Tryz.call53 _ _) rfl ?_
          intro hw
          clear hw
          exact zw
    · rw [if_neg h2]
      generalize askd n e = z at *
      refine fn_ok (by kernel_rfl) ty_ok Tryz.func53 rfl (fun _ _ => Tryz.call53 _ _) rfl ?_
      intro hw
      clear hw
      exact zw
  · rw [if_neg h1]
    have h8 : pchk p = 8 := (pchk_08 p).resolve_left h1
    rw [h8] at H1
    refine fn_ok (by kernel_rfl) ty_ok Tryz.func53 rfl (fun _ _ => Tryz.call53 _ _) rfl ?_
    intro hw
    clear hw
    exact zw
end Go.Proofs.YtnhljlihchegjaaGreat

/- The past: the reference's What, Leader, Order. No conditions. -/
namespace Go.Proofs.YtnhljlihchegjaaGreat
open Go.RowKit Go.Sort Sx
/-- what is answered at what there was -/
def pleadV (p : Pa) (n e : Int) : Int × Int := if (whatV p n e).2 = 0 then leadV (whatV p n e).1 n e else (0, (whatV p n e).2)
theorem pLeader_fn (p : Pa) (n e : Int) : FnOK Tryz.prog 56 [p.dc, rat n e] (ret2 (pleadV p n e)) := by
  have H1 := pWhat_fn p n e
  unfold pleadV
  generalize whatV p n e = w at *
  obtain ⟨l, r⟩ := w
  simp only [retW] at *
  have H2 := fLeader_fn l n e
  by_cases h : r = 0
  · rw [if_pos h]
    generalize leadV l n e = y at *
    obtain ⟨u, v⟩ := y
    simp only [ret2] at *
    refine fn_ok (by kernel_rfl) ty_ok Tryz.func56 rfl (fun _ _ => Tryz.call56 _ _) rfl ?_
    intro hw
    clear hw
    exact zw
  · rw [if_neg h]
    refine fn_ok (by kernel_rfl) ty_ok Tryz.func56 rfl (fun _ _ => Tryz.call56 _ _) rfl ?_
    intro hw
    clear hw
    exact zw
def pordV (p : Pa) (n e : Int) : List Int × Int := if (whatV p n e).2 = 0 then orderV (whatV p n e).1 n e else ([], (whatV p n e).2)
theorem pOrder_fn (p : Pa) (n e : Int) : FnOK Tryz.prog 57 [p.dc, rat n e] (retO (pordV p n e)) := by
  have H1 := pWhat_fn p n e
  unfold pordV
  generalize whatV p n e = w at *
  obtain ⟨l, r⟩ := w
  simp only [retW] at *
  have H2 := fOrder_fn l n e
  by_cases h : r = 0
  · rw [if_pos h]
    generalize orderV l n e = y at *
    obtain ⟨u, v⟩ := y
    simp only [retO] at *
    refine fn_ok (by kernel_rfl) ty_ok Tryz.func57 rfl (fun _ _ => Tryz.call57 _ _) rfl ?_
    intro hw
    clear hw
    exact zw
  · rw [if_neg h]
    refine fn_ok (by kernel_rfl) ty_ok Tryz.func57 rfl (fun _ _ => Tryz.call57 _ _) rfl ?_
    intro hw
    clear hw
    exact zw
end Go.Proofs.YtnhljlihchegjaaGreat

/- The past: when a point was there. No conditions. -/
namespace Go.Proofs.YtnhljlihchegjaaGreat
open Go.RowKit Go.Sort Sx
def aln (l : List Pt) (id : Int) : List Pt := if has l id then [l[pos l id]?.getD default] else []
def wasL : List Md → Int → List Pt → List Md
  | [], _, _ => []
  | m :: l, id, b => (if b = aln m.l id then [] else [⟨m.n, m.d, aln m.l id⟩]) ++ wasL l id (aln m.l id)
theorem wasL_lt {l : List Md} {id : Int} {b : List Pt} {i : Nat} (h : i < l.length) : wasL (l.drop i) id b = (if b = aln l[i].l id then [] else [⟨l[i].n, l[i].d, aln l[i].l id⟩]) ++ wasL (l.drop (i + 1)) id (aln l[i].l id) := by
  rw [List.drop_eq_getElem_cons h, wasL]
theorem wasL_ge {l : List Md} {id : Int} {b : List Pt} {i : Nat} (h : l.length ≤ i) : wasL (l.drop i) id b = [] := by
  rw [List.drop_eq_nil_of_le h, wasL]
def wasV (p : Pa) (id : Int) : List Md × Int := if pchk p = 0 then (wasL p.ms id [], 0) else ([], 8)
abbrev retM (x : List Md × Int) : DV := .tup [.one (mos x.1), .one (i64 x.2)]
end Go.Proofs.YtnhljlihchegjaaGreat
