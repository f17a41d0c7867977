import Derived.Test.YtgdpogdgpfjnoaaDoorGCAO
import Derived.RangeFuncBox
set_option linter.all false
namespace Go.Proofs.YtgdpogdgpfjnoaaDoor
open Go Go.RowKit Go.Sort Sx
open Go.Lib hiding intOf
theorem set3 {W : World} {b : Nat} {x y z : Value} {T : TypeId} (v : Value) (h : W.heap[b]? = some (.cells #[x, y, z] T (0, 0))) :
    (W.setCell ⟨b, 0, none⟩ v).heap[b]? = some (.cells #[v, y, z] T (0, 0)) ∧ (W.setCell ⟨b, 1, none⟩ v).heap[b]? = some (.cells #[x, v, z] T (0, 0)) ∧ (W.setCell ⟨b, 2, none⟩ v).heap[b]? = some (.cells #[x, y, v] T (0, 0)) := by
  obtain ⟨hlt, hk⟩ := Array.getElem?_eq_some_iff.1 h
  refine ⟨?_, ?_, ?_⟩
  all_goals
    show (W.heap.modify b _)[b]? = _
    rw [Array.getElem?_eq_getElem (by rw [Array.size_modify]; exact hlt), Array.getElem_modify_self, hk]
    rfl
theorem setCell_other {W : World} {a : Addr} {v : Value} {k : Nat} (h : k ≠ a.block) : (W.setCell a v).heap[k]? = W.heap[k]? := Below.heap_setCell W a v k h
theorem cells3 {W : World} {b : Nat} {x y z : Value} {T : TypeId} (h : W.heap[b]? = some (.cells #[x, y, z] T (0, 0))) :
    W.cell? ⟨b, 0, none⟩ = some x ∧ W.cell? ⟨b, 1, none⟩ = some y ∧ W.cell? ⟨b, 2, none⟩ = some z ∧ W.frozen? ⟨b, 0, none⟩ = false ∧ W.frozen? ⟨b, 1, none⟩ = false ∧ W.frozen? ⟨b, 2, none⟩ = false := by
  refine ⟨?_, ?_, ?_, ?_, ?_, ?_⟩ <;> simp [World.cell?, World.frozen?, h]
def Pt.vals (p : Pt) : List Value := [.int .i64 p.id, .int .i64 p.a, .int .i64 p.b]
def in64 (n : Int) : Prop := -9223372036854775808 ≤ n ∧ n ≤ 9223372036854775807
def MdIn (m : Md) : Prop := in64 m.n ∧ in64 m.d ∧ ∀ p ∈ m.l, in64 p.id ∧ in64 p.a ∧ in64 p.b
def PrsI (w : World) (pre : List Str) (W : World) : Prop :=
  (∃ m v, prsL mdZ pre = some m ∧ MdIn m ∧ m.l.length ≤ pre.length ∧ W.heap[w.heap.size + 2]? = some (.cells #[.int .i64 m.n, .int .i64 m.d, v] 28 (0, 0)) ∧ W.ownsRow (w.heap.size + 4) 46 3 v m.l.length (m.l.flatMap Pt.vals)) ∧
  W.heap[w.heap.size]? = some (.cells #[.int .i64 0, .int .i64 0, .slice none 0 0] 28 (0, 0)) ∧ Boxed W (w.heap.size + 1) 31 (.int .i64 0) ∧ w.heap.size + 4 ≤ W.heap.size ∧ Below w.heap.size w W
def PrsX (s : Str) (w : World) (W : World) : Prop :=
  prsL mdZ (lns s) = none ∧ W.heap[w.heap.size]? = some (.cells #[.int .i64 0, .int .i64 0, .slice none 0 0] 28 (0, 0)) ∧ Boxed W (w.heap.size + 1) 31 (.int .i64 12) ∧ w.heap.size + 4 ≤ W.heap.size ∧ Below w.heap.size w W
theorem below_row {n0 : Nat} {w W W' : World} {row : Option Nat} (h : Below n0 w W) (hn : n0 ≤ W.heap.size) (hg : W.grownBy W' row) (hr : ∀ r, row = some r → n0 ≤ r) : Below n0 w W' := h.grown hg hn hr
theorem prsI_keep {w : World} {pre : List Str} {A B : World} {row : Option Nat} (h : PrsI w pre A) (hg : A.grownBy B row)
    (hr : ∀ r, row = some r → r = w.heap.size + 3 ∨ (w.heap.size + 4 ≤ r ∧ ∃ o : Obj, A.heap[r]? = some o ∧ o.isCells = false)) : PrsI w pre B := by
  obtain ⟨⟨m, v, h1, h2, h3, h4, h5⟩, h6, h7, h8, h9⟩ := h
  have kp : ∀ {k : Nat} {o : Obj}, k < w.heap.size + 3 → A.heap[k]? = some o → B.heap[k]? = some o := fun {k o} hk ho => (hg.block k (Array.getElem?_eq_some_iff.1 ho).1 fun e => by
    rcases hr k e.symm with h | ⟨h, _⟩ <;> omega).trans ho
  refine ⟨⟨m, v, h1, h2, h3, kp (by omega) h4, h5.kept hg ?_⟩, kp (by omega) h6, kp (by omega) h7, Nat.le_trans h8 hg.size, below_row h9 (by omega) hg fun r e => by rcases hr r e with h | ⟨h, _⟩ <;> omega⟩
  rcases h5.2 with ⟨rfl, _⟩ | ⟨g, cap, cur, rfl, hb, hgb, _⟩
  · exact .inl rfl
  · refine .inr fun e' => ?_
    have e2 : row = some g := by simpa [Value.ownBlock] using e'.symm
    rcases hr g e2 with h | ⟨_, o, ho, hc⟩
    · omega
    · rw [hgb] at ho; cases ho; cases hc
theorem prsX_keep {s : Str} {w : World} {A B : World} {row : Option Nat} (h : PrsX s w A) (hg : A.grownBy B row)
    (hr : ∀ r, row = some r → w.heap.size + 4 ≤ r ∧ ∃ o : Obj, A.heap[r]? = some o ∧ o.isCells = false) : PrsX s w B := by
  obtain ⟨h1, h6, h7, h8, h9⟩ := h
  have kp : ∀ {k : Nat} {o : Obj}, k < w.heap.size + 3 → A.heap[k]? = some o → B.heap[k]? = some o := fun {k o} hk ho => (hg.block k (Array.getElem?_eq_some_iff.1 ho).1 fun e => by
    have := (hr k e.symm).1; omega).trans ho
  exact ⟨h1, kp (by omega) h6, kp (by omega) h7, Nat.le_trans h8 hg.size, below_row h9 (by omega) hg fun r e => by have := (hr r e).1; omega⟩
theorem setCell_o {W : World} {v : Value} {k b j : Nat} {o : Obj} (h : k ≠ b) (ho : W.heap[k]? = some o) : (W.setCell ⟨b, j, none⟩ v).heap[k]? = some o := (setCell_other h).trans ho
def stopW (n0 : Nat) (W : World) : World := (((W.setCell ⟨n0, 0, none⟩ (.int .i64 0)).setCell ⟨n0, 1, none⟩ (.int .i64 0)).setCell ⟨n0, 2, none⟩ (.slice none 0 0)).setCell ⟨n0 + 1, 0, none⟩ (.int .i64 12)
theorem ko_stop (n0 : Nat) (W : World) : KeepsOthers W (stopW n0 W) := (((KeepsOthers.setCell _ _ _).trans (KeepsOthers.setCell _ _ _)).trans (KeepsOthers.setCell _ _ _)).trans (KeepsOthers.setCell _ _ _)
theorem prsX_stop0 {s : Str} {w W : World} (h6 : W.heap[w.heap.size]? = some (.cells #[.int .i64 0, .int .i64 0, .slice none 0 0] 28 (0, 0))) (h7 : Boxed W (w.heap.size + 1) 31 (.int .i64 0)) (h8 : w.heap.size + 4 ≤ W.heap.size) (h9 : Below w.heap.size w W) :
    (stopW w.heap.size W).heap[w.heap.size]? = some (.cells #[.int .i64 0, .int .i64 0, .slice none 0 0] 28 (0, 0)) ∧ Boxed (stopW w.heap.size W) (w.heap.size + 1) 31 (.int .i64 12) ∧ w.heap.size + 4 ≤ (stopW w.heap.size W).heap.size ∧ Below w.heap.size w (stopW w.heap.size W) := by
  refine ⟨?_, ?_, Nat.le_trans h8 (ko_stop _ _).size, ?_⟩
  · exact setCell_o (by omega) (set3 _ (set3 _ (set3 _ h6).1).2.1).2.2
  · refine Boxed.set _ (v := .int .i64 0) ?_
    exact setCell_o (by omega) (setCell_o (by omega) (setCell_o (by omega) h7))
  · exact (((h9.setCell (Nat.le_refl _) _).setCell (Nat.le_refl _) _).setCell (Nat.le_refl _) _).setCell (Nat.le_succ _) _
theorem prsX_stop {s : Str} {w W : World} (hp : prsL mdZ (lns s) = none) (h6 : W.heap[w.heap.size]? = some (.cells #[.int .i64 0, .int .i64 0, .slice none 0 0] 28 (0, 0))) (h7 : Boxed W (w.heap.size + 1) 31 (.int .i64 0)) (h8 : w.heap.size + 4 ≤ W.heap.size) (h9 : Below w.heap.size w W) : PrsX s w (stopW w.heap.size W) := ⟨hp, prsX_stop0 (s := s) h6 h7 h8 h9⟩
def okW (n0 : Nat) (W : World) (x y z : Value) : World := (((W.setCell ⟨n0, 0, none⟩ x).setCell ⟨n0, 1, none⟩ y).setCell ⟨n0, 2, none⟩ z).setCell ⟨n0 + 1, 0, none⟩ (.int .i64 0)
theorem ko_ok (n0 : Nat) (W : World) (x y z : Value) : KeepsOthers W (okW n0 W x y z) := (((KeepsOthers.setCell _ _ _).trans (KeepsOthers.setCell _ _ _)).trans (KeepsOthers.setCell _ _ _)).trans (KeepsOthers.setCell _ _ _)
theorem prs_ok {w W : World} (x y z : Value) (h6 : W.heap[w.heap.size]? = some (.cells #[.int .i64 0, .int .i64 0, .slice none 0 0] 28 (0, 0))) (h7 : Boxed W (w.heap.size + 1) 31 (.int .i64 0)) (h8 : w.heap.size + 4 ≤ W.heap.size) (h9 : Below w.heap.size w W) :
    (okW w.heap.size W x y z).heap[w.heap.size]? = some (.cells #[x, y, z] 28 (0, 0)) ∧ Boxed (okW w.heap.size W x y z) (w.heap.size + 1) 31 (.int .i64 0) ∧ w.heap.size + 4 ≤ (okW w.heap.size W x y z).heap.size ∧ Below w.heap.size w (okW w.heap.size W x y z) := by
  refine ⟨?_, ?_, Nat.le_trans h8 (ko_ok _ _ _ _ _).size, ?_⟩
  · exact setCell_o (by omega) (set3 _ (set3 _ (set3 _ h6).1).2.1).2.2
  · refine Boxed.set _ (v := .int .i64 0) ?_
    exact setCell_o (by omega) (setCell_o (by omega) (setCell_o (by omega) h7))
  · exact (((h9.setCell (Nat.le_refl _) _).setCell (Nat.le_refl _) _).setCell (Nat.le_refl _) _).setCell (Nat.le_succ _) _
theorem sLines_in {n : Nat} (s : Str) (w : World) : CallsIn Fence.wide n Tryd.prog 36 #[bstr s] w fun e w' => e = .returned (.func (.func 62) #[] #[.pointer (some ⟨w.heap.size, 0, none⟩)]) ∧ w' = w.alloc (.cells #[bstr s] 9) := by
  refine callsIn_of_wp Tryd.func36 rfl trivial ?_ rfl
  simp only [Tryd.ntmps36, List.size_toArray, List.length_cons, List.length_nil, Nat.reduceAdd, Nat.reduceSub, Array.replicate_succ, Array.replicate_zero, List.push_toArray, List.append_toArray, List.nil_append, List.cons_append]
  gi_wp2
  first | go_ret | refine bodyPost_ret (results_tmp rfl _ _ _) rfl ?_ | refine bodyPost_end (results_tmp rfl _ _ _) rfl ?_
  exact ⟨rfl, rfl⟩
theorem ko_below {W W' : World} (h : Below W.heap.size W W') : KeepsOthers W W' := ⟨h.size, fun k o hk _ => (h.block k (Array.getElem?_eq_some_iff.1 hk).1).trans hk⟩
theorem gb_below {W W' : World} (h : Below W.heap.size W W') : W.grownBy W' none := ⟨h.os, h.tape, h.output, h.size, fun k hk _ => h.block k hk⟩
theorem gb_set (W : World) (a : Addr) (v : Value) : W.grownBy (W.setCell a v) (some a.block) := ⟨rfl, rfl, rfl, (KeepsWalks.setCell W _ v).size, fun k _ hk => Below.heap_setCell _ _ _ k (fun e => hk (by rw [e]))⟩
theorem owns_set {W : World} {base : Nat} {e : TypeId} {size k : Nat} {v : Value} {xs : List Value} (h : W.ownsRow base e size v k xs) (a : Addr) (u : Value) (ha : a.block < base) : (W.setCell a u).ownsRow base e size v k xs := by
  refine h.kept (gb_set W a u) ?_
  rcases h.2 with ⟨rfl, _⟩ | ⟨g, cap, cur, rfl, hb, hgb, _⟩
  · exact .inl rfl
  · refine .inr fun e' => ?_
    have : a.block = g := by simpa [Value.ownBlock] using e'.symm
    omega
theorem owns_below {W W' : World} {base : Nat} {e : TypeId} {size k : Nat} {v : Value} {xs : List Value} (h : W.ownsRow base e size v k xs) (hb : Below W.heap.size W W') : W'.ownsRow base e size v k xs := h.kept (gb_below hb) (by cases hv : v.ownBlock <;> simp)
theorem rep_tail {w : World} {M : Nat → Prop} {a : Str} {l : List Str} {b o c : Nat} (h : Rep w M (strs (a :: l)) (.slice (some ⟨b, o, none⟩) (l.length + 1) c)) (hc : l.length + 1 ≤ c) :
    (c = 1 → Rep w M (strs l) (.slice (some ⟨b, o, none⟩) l.length 0)) ∧ (c ≠ 1 → Rep w M (strs l) (.slice (some ⟨b, o + 1, none⟩) l.length (c - 1))) := by
  have hl : ((a :: l).map fun s => [str s]).length = l.length + 1 := by simp
  rw [← hl] at h
  have := rep_sub h (p := 1) (q := ((a :: l).map fun s => [str s]).length) (m := c) (by rw [hl]; omega) (Nat.le_refl _) (by rw [hl]; exact hc) (Nat.le_refl _)
  rw [List.take_length, hl] at this
  refine ⟨fun e => ?_, fun e => ?_⟩
  · subst e
    rw [if_pos rfl] at this
    exact this
  · rw [if_neg e] at this
    exact this
theorem fn_in {n : Nat} {f : Nat} {args : List DC} {r : DV} (hcall : ∀ (vs : Array Value) (w : World), (callFunc f vs).run Tryd.prog w = .ok (.enter f vs) w) (h : FnOK Tryd.prog f args r) {w : World} (hg : Gd w) {vs : List Value} (hvs : DCsR w (fun _ => False) args vs) :
    CallsIn Fence.wide n Tryd.prog f vs.toArray w fun e w' => ∃ v, e = .returned v ∧ DVR w' (fun _ => False) r v ∧ Below w.heap.size w w' := by
  refine callsIn_wide.2 ?_
  rcases h w (fun _ => False) vs ⟨fun _ h => h.elim, hg, fun _ h => h.elim⟩ hvs with ⟨g, hg, hc⟩ | ⟨u, hg, _⟩
  · have : g = f := by
      rw [hcall] at hg
      injection hg with h1
      injection h1 with h1
      exact h1.symm
    subst this
    exact hc
  · rw [hcall] at hg
    cases hg
theorem fn_in' {n : Nat} {f : Nat} {args : List DC} {r : DV} {v : Value} (hcall : ∀ (vs : Array Value) (w : World), (callFunc f vs).run Tryd.prog w = .ok (.enter f vs) w) (hr : dv? r = some v) (h : FnOK Tryd.prog f args r) {w : World} (hg : Gd w) {vs : List Value} (hvs : DCsR w (fun _ => False) args vs) :
    CallsIn Fence.wide n Tryd.prog f vs.toArray w fun e w' => e = .returned v ∧ WDV r ∧ Below w.heap.size w w' := by
  refine (fn_in hcall h hg hvs).mono ?_
  rintro e w' ⟨u, rfl, hu, hb⟩
  rw [dv_rel hr] at hu
  rw [hu.1]
  exact ⟨rfl, hu.2, hb⟩
theorem rep_owned {W : World} {n0 : Nat} {v : Value} {l : List Pt} {M : Nat → Prop} (h : W.ownsRow n0 46 3 v l.length (l.flatMap Pt.vals)) (hok : ∀ p ∈ l, in64 p.id ∧ in64 p.a ∧ in64 p.b) (hM : ∀ b, M b → b < n0) : Rep W M (pts l) v := by
  rcases h.2 with ⟨rfl, h0⟩ | ⟨g, cap, cur, rfl, hb, hgb, h1, h2, h3, h4⟩
  · have : l = [] := List.eq_nil_of_length_eq_zero h0
    subst this
    exact .nil 3 none 0 (by decide) (fun _ => rfl)
  · have hl : (l.map Pt.c).length = l.length := List.length_map ..
    have hD : ∀ (l : List Pt), (∀ p ∈ l, in64 p.id ∧ in64 p.a ∧ in64 p.b) → DsR W M (l.map Pt.c).flatten (l.flatMap Pt.vals) := by
      intro l
      induction l with
      | nil => intro _; trivial
      | cons p l ih =>
        intro hok
        obtain ⟨q1, q2, q3⟩ := hok p (List.mem_cons_self ..)
        rw [List.map_cons, List.flatten_cons, List.flatMap_cons]
        exact DsR.append ⟨.v _ rfl q1, .v _ rfl q2, .v _ rfl q3, trivial⟩ (ih fun q hq => hok q (List.mem_cons_of_mem _ hq))
    have := rep_of_row (M := M) (b := g) (off := 0) (cap := cap) (k := 3) (l := l.map Pt.c) (fun x hx => by obtain ⟨p, _, rfl⟩ := List.mem_map.1 hx; rfl) (hD l hok) (fun i hi => by
      rw [Nat.zero_add]
      simp only [World.cell?, hgb]
      rw [← h4] at hi ⊢
      rw [List.length_take] at hi
      rw [List.getElem?_take_of_lt (by omega)]
      simp) (by rw [hl]; exact h1) (by unfold maxLen at h2; omega) (fun h => by have := hM g h; omega) (Array.getElem?_eq_some_iff.1 hgb).1
    rw [hl] at this
    exact this
end Go.Proofs.YtgdpogdgpfjnoaaDoor

namespace Go.Proofs.YtgdpogdgpfjnoaaDoor
open Go Go.RowKit Go.Sort Sx
open Go.Lib hiding intOf
theorem zip1 (a : Tmp) (x : Value) (t : Array Value) : ((#[a] : Array Tmp).zip #[x]).foldl (fun t (p, v) => t.setIfInBounds p v) t = t.setIfInBounds a x := by
  have e : (#[a] : Array Tmp).zip #[x] = #[(a, x)] := by apply Array.ext'; simp
  rw [e]; simp
theorem str_eql (t : Nat) (a b : Str) (w : World) : (binOp .eql t (bstr a) (bstr b)).run Tryd.prog w = .ok (.bool (decide (a = b))) w := by
  rw [binOp_string_eql, str_toList, str_toList]
  simp [go_sem]
  by_cases h : a = b <;> simp [h]
theorem trimN_le (x : Str) : (trimN x).length ≤ x.length := by
  unfold trimN
  split
  · rw [List.length_dropLast]; omega
  · exact Nat.le_refl _
theorem lns_bytes {s : Str} {pre post : List Str} {x : Str} (h : pre ++ x :: post = lns s) : x.length ≤ s.length ∧ pre.length ≤ s.length := by
  refine ⟨lns_each (by rw [← h]; simp), ?_⟩
  have := lns_len (s := s)
  rw [← h] at this
  simp at this
  omega
theorem trim_in {n lp : Nat} {x : Str} (hx : x.length ≤ 2500) {W : World} (hg : Gd W) : CallsIn (Fence.wide.inRound lp) n Tryd.prog 38 #[bstr x, bstr [10]] W fun e w' => e = .returned (bstr (trimN x)) ∧ Below W.heap.size W w' :=
  CallsIn.inRound lp ((fn_in' (vs := [bstr x, bstr [10]]) (fun _ _ => Tryd.call38 _ _) rfl (trim_fn (s := x) (c := 10) (by omega)) hg ⟨.v _ rfl trivial, .v _ rfl trivial, trivial⟩).mono fun e w' ⟨h1, _, h2⟩ => ⟨h1, h2⟩)
theorem split_in {n lp : Nat} {t w0 : Str} {tl : List Str} (ht : t.length ≤ 2500) (hL : spl 32 t = w0 :: tl) {W : World} (hg : Gd W) : CallsIn (Fence.wide.inRound lp) n Tryd.prog 37 #[bstr t, bstr [32]] W fun e w' => ∃ b off cap, e = .returned (.slice (some ⟨b, off, none⟩) (tl.length + 1) cap) ∧ tl.length + 1 ≤ cap ∧ b < w'.heap.size ∧ (∀ i (hi : i < (w0 :: tl).length), w'.cell? ⟨b, off + i, none⟩ = some (bstr (w0 :: tl)[i])) ∧ Rep w' (fun _ => False) (strs (w0 :: tl)) (.slice (some ⟨b, off, none⟩) (tl.length + 1) cap) ∧ Below W.heap.size W w' := by
  refine CallsIn.inRound lp ((fn_in (vs := [bstr t, bstr [32]]) (fun _ _ => Tryd.call37 _ _) (split_fn (s := t) (c := 32) (by omega)) hg ⟨.v _ rfl trivial, .v _ rfl trivial, trivial⟩).mono ?_)
  rintro e w' ⟨v, rfl, hv, hb⟩
  rw [hL] at hv
  obtain ⟨b, off, cap, rfl, h1, h2, h3⟩ := rep_strs (by simp) hv
  exact ⟨b, off, cap, rfl, h1, h2, h3, hv, hb⟩
theorem number_in {n lp : Nat} {y : Str} (hy : y.length ≤ 2500) {W : World} (hg : Gd W) : CallsIn (Fence.wide.inRound lp) n Tryd.prog 30 #[bstr y] W fun e w' => e = .returned (.tuple #[.agg #[.int .i64 (readV y).1.1, .int .i64 (readV y).1.2], .int .i64 (readV y).2]) ∧ in64 (readV y).1.1 ∧ in64 (readV y).1.2 ∧ Below W.heap.size W w' := by
  refine CallsIn.inRound lp ((fn_in' (vs := [bstr y]) (fun _ _ => Tryd.call30 _ _) rfl (cReadNumber_fn y (by omega)) hg ⟨.v _ rfl trivial, trivial⟩).mono ?_)
  rintro e w' ⟨h1, h2, h3⟩
  exact ⟨h1, wd_i64.1 h2.1.1, wd_i64.1 h2.1.2.1, h3⟩
theorem point_in {n lp : Nat} {l : List Str} (hl : l.length ≤ 2501) (hs : ∀ x ∈ l, x.length ≤ 2500) {W : World} (hg : Gd W) {v : Value} (hv : Rep W (fun _ => False) (strs l) v) : CallsIn (Fence.wide.inRound lp) n Tryd.prog 39 #[v] W fun e w' =>
    ((∃ p, rdPt wholeV l = some p ∧ in64 p.id ∧ in64 p.a ∧ in64 p.b ∧ e = .returned (.tuple #[.agg #[.int .i64 p.id, .int .i64 p.a, .int .i64 p.b], .bool true])) ∨ (rdPt wholeV l = none ∧ e = .returned (.tuple #[.agg #[.int .i64 0, .int .i64 0, .int .i64 0], .bool false]))) ∧ Below W.heap.size W w' := by
  refine CallsIn.inRound lp ((fn_in (vs := [v]) (fun _ _ => Tryd.call39 _ _) (creadPoint_fn l (by omega) fun x hx => Nat.le_trans (hs x hx) (by decide)) hg ⟨hv, trivial⟩).mono ?_)
  rintro e w' ⟨v, rfl, hv, hb⟩
  rw [rdPt_3]
  cases h : rd3 wholeV l with
  | none =>
    rw [h] at hv
    have hv' : DVR w' (fun _ => False) (retPo none) v := hv
    rw [dv_rel (v := .tuple #[.agg #[.int .i64 0, .int .i64 0, .int .i64 0], .bool false]) rfl] at hv'
    exact ⟨.inr ⟨rfl, by rw [hv'.1]⟩, hb⟩
  | some p =>
    rw [h] at hv
    have hv' : DVR w' (fun _ => False) (retPo (some p)) v := hv
    rw [dv_rel (v := .tuple #[.agg #[.int .i64 p.1, .int .i64 p.2.1, .int .i64 p.2.2], .bool true]) rfl] at hv'
    obtain ⟨rfl, h1, h2⟩ := hv'
    exact ⟨.inl ⟨_, rfl, wd_i64.1 h1.1, wd_i64.1 h1.2.1, wd_i64.1 h1.2.2.1, rfl⟩, hb⟩
theorem own_ne {W : World} {base : Nat} {e : TypeId} {size k b : Nat} {v : Value} {xs : List Value} (h : W.ownsRow base e size v k xs) (hb : b < base) : some b ≠ v.ownBlock := by
  rcases h.2 with ⟨rfl, _⟩ | ⟨g, cap, cur, rfl, hg, hgb, _⟩
  · simp [Value.ownBlock]
  · intro e'
    have : b = g := by simpa [Value.ownBlock] using e'
    omega
theorem own_cells {W : World} {base : Nat} {e : TypeId} {size k : Nat} {v : Value} {xs : List Value} (h : W.ownsRow base e size v k xs) {j : Nat} {o : Obj} (ej : v.ownBlock = some j) (hj : W.heap[j]? = some o) : o.isCells = true ∧ base ≤ j := by
  rcases h.2 with ⟨rfl, _⟩ | ⟨g, cap, cur, rfl, hg, hgb, _⟩
  · simp [Value.ownBlock] at ej
  · obtain rfl : g = j := by simpa [Value.ownBlock] using ej
    rw [hgb] at hj; cases hj; exact ⟨rfl, hg⟩
theorem own_base {W : World} {base : Nat} {e : TypeId} {size k : Nat} {v : Value} {xs : List Value} (h : W.ownsRow base e size v k xs) {j : Nat} (ej : v.ownBlock = some j) : base ≤ j := by
  rcases h.2 with ⟨rfl, _⟩ | ⟨g, cap, cur, rfl, hg, hgb, _⟩
  · simp [Value.ownBlock] at ej
  · obtain rfl : g = j := by simpa [Value.ownBlock] using ej
    exact hg
theorem cM3 (W3 : World) (p : Pt) : ∀ (j : Nat) (u : Value), ([.int .i64 p.id, .int .i64 p.a, .int .i64 p.b] : List Value)[j]? = some u → ((W3.alloc (.cells #[.int .i64 p.id, .int .i64 p.a, .int .i64 p.b] 46)).alloc (.cells #[.int .i64 p.id, .int .i64 p.a, .int .i64 p.b] 46)).cell? ((⟨W3.heap.size + 1, 0, none⟩ : Addr).add j) = some u := fun j u hj => by
  have hn := World.alloc_heap_new (W3.alloc (.cells #[.int .i64 p.id, .int .i64 p.a, .int .i64 p.b] 46)) (.cells #[.int .i64 p.id, .int .i64 p.a, .int .i64 p.b] 46)
  rw [World.size_alloc] at hn
  rw [Sx.add_plain, Nat.zero_add]
  simp only [World.cell?, hn]
  simpa using hj
theorem results_parse {n0 : Nat} {W : World} {x y z e : Value} (tmps : Array Value) (h2 : tmps[2]? = some (.pointer (some ⟨n0, 0, none⟩))) (h3 : tmps[3]? = some (.pointer (some ⟨n0 + 1, 0, none⟩))) (h6 : W.heap[n0]? = some (.cells #[x, y, z] 28 (0, 0))) (h7 : Boxed W (n0 + 1) 31 e) : (results Tryd.f12 tmps).run Tryd.prog W = .ok (.tuple #[.agg #[x, y, z], e]) W := by
  obtain ⟨a0, a1, a2, _⟩ := cells3 h6
  have e0 := h7.cell
  have hr : Tryd.f12.results = #[.cell 2 28, .cell 3 31] := rfl
  simp only [results, hr]
  simp [h2, h3]
  go_simp
theorem parse_end {n : Nat} {s : Str} {w W : World} {M : Nat → Prop} {D : Nat} {tmps : Array Value} {x y z e : Value} (h2 : tmps[2]? = some (.pointer (some ⟨w.heap.size, 0, none⟩))) (h3 : tmps[3]? = some (.pointer (some ⟨w.heap.size + 1, 0, none⟩)))
    (h6 : W.heap[w.heap.size]? = some (.cells #[x, y, z] 28 (0, 0))) (h7 : Boxed W (w.heap.size + 1) 31 e) (h8 : w.heap.size + 4 ≤ W.heap.size) (h9 : Below w.heap.size w W) (hD : w.heap.size ≤ D) (hK : W.heap[D]? = some (.deferred (some [])))
    (hr : DVR (W.putObj D (.deferred none)) M (retMd (parseV s)) (.tuple #[.agg #[x, y, z], e])) :
    bodyPostM Fence.wide n Tryd.prog Tryd.f12 (fun e w' => ∃ v, e = Ending.returned v ∧ DVR w' M (retMd (parseV s)) v ∧ Below w.heap.size w w') Exit.ret { tmps := tmps, defers := [{ target := Target.collected D, args := #[] }] } W := by
  refine ⟨by simp, .inl ⟨_, _, rfl, run_takeDeferred hK, ?_⟩⟩
  have ne : ∀ {b : Nat} {cs : Array Value} {T : TypeId} {fr : Nat × Nat}, W.heap[b]? = some (.cells cs T fr) → (W.putObj D (.deferred none)).heap[b]? = some (.cells cs T fr) := fun h => (World.putObj_heap_other fun e => by subst e; rw [hK] at h; cases h).trans h
  refine ⟨_, results_parse tmps h2 h3 (ne h6) (ne h7), _, rfl, hr, ?_⟩
  exact h9.grown (grownBy_putObj' W D _) (by omega) (fun k e => by cases e; omega)
theorem str_neq (t : Nat) (a b : Str) (w : World) : (binOp .neq t (bstr a) (bstr b)).run Tryd.prog w = .ok (.bool (decide (¬ a = b))) w := by
  rw [binOp_string_neq, str_toList, str_toList]
  simp [go_sem]
  by_cases h : a = b <;> simp [h]
attribute [local go_sem] str_eql str_neq
set_option maxRecDepth 100000 in
set_option maxHeartbeats 4000000 in
theorem parse_in {n : Nat} (s : Str) (hs : s.length ≤ 2500) (w : World) (hg0 : Gd w) (M : Nat → Prop) (hM : ∀ b, M b → b < w.heap.size) (hn : 6 ≤ n) :
    CallsIn Fence.wide n Tryd.prog 12 #[bstr s] w fun e w' => ∃ v, e = .returned v ∧ DVR w' M (retMd (parseV s)) v ∧ Below w.heap.size w w' := by
  have hn1 : 1 ≤ n := by omega
  have hn2 : 1 ≤ n - 1 := by omega
  have hn3 : 1 ≤ n - 1 - 1 := by omega
  have hf1 : Fence.wide.fn 36 := trivial
  have hf2 : Fence.wide.fn 38 := trivial
  have hf3 : Fence.wide.fn 37 := trivial
  have hf4 : Fence.wide.fn 30 := trivial
  have hf5 : Fence.wide.fn 39 := trivial
  have hf6 : Fence.wide.fn 10 := trivial
  have hlen : ¬ ((s.length : Int) > 2500) := by omega
  refine callsIn_of_wp_marks Tryd.func12 rfl trivial ?_ rfl
  simp only [Tryd.ntmps12, List.size_toArray, List.length_cons, List.length_nil, Nat.reduceAdd, Nat.reduceSub, Array.replicate_succ, Array.replicate_zero, List.push_toArray, List.append_toArray, List.nil_append, List.cons_append]
  gi_wp2_with (gi_at_call 36; (with_reducible refine CallsIn.mono (sLines_in s _) ?_); rintro e w1 ⟨rfl, rfl⟩)
  obtain ⟨W0, hW0⟩ : ∃ W0, W0 = (((w.alloc (.cells #[.int .i64 0, .int .i64 0, .slice none 0 0] 28)).alloc (.cells #[.int .i64 0] 31)).alloc (.cells #[.int .i64 0, .int .i64 0, .slice none 0 0] 28)).alloc (.cells #[bstr s] 9) := ⟨_, rfl⟩
  have hB0 : Below w.heap.size w W0 := by rw [hW0]; exact ((((Below.refl _ w).alloc (Nat.le_refl _) _).alloc (by simp) _).alloc (by simp <;> omega) _).alloc (by simp <;> omega) _
  have hs0 : W0.heap.size = w.heap.size + 4 := by rw [hW0]; simp
  have k0 : W0.heap[w.heap.size]? = some (.cells #[.int .i64 0, .int .i64 0, .slice none 0 0] 28 (0, 0)) := by
    rw [hW0, Below.heap_alloc _ _ _ (by simp <;> omega), Below.heap_alloc _ _ _ (by simp <;> omega), Below.heap_alloc _ _ _ (by simp)]
    exact World.alloc_heap_new w _
  have k1 : W0.heap[w.heap.size + 1]? = some (.cells #[.int .i64 0] 31 (0, 0)) := by
    rw [hW0, Below.heap_alloc _ _ _ (by simp <;> omega), Below.heap_alloc _ _ _ (by simp)]
    have := World.alloc_heap_new (w.alloc (.cells #[.int .i64 0, .int .i64 0, .slice none 0 0] 28)) (.cells #[.int .i64 0] 31)
    rwa [World.size_alloc] at this
  have k2 : W0.heap[w.heap.size + 2]? = some (.cells #[.int .i64 0, .int .i64 0, .slice none 0 0] 28 (0, 0)) := by
    rw [hW0, Below.heap_alloc _ _ _ (by simp)]
    have := World.alloc_heap_new ((w.alloc (.cells #[.int .i64 0, .int .i64 0, .slice none 0 0] 28)).alloc (.cells #[.int .i64 0] 31)) (.cells #[.int .i64 0, .int .i64 0, .slice none 0 0] 28)
    rwa [World.size_alloc, World.size_alloc] at this
  have k3 : Boxed W0 (w.heap.size + 3) 9 (bstr s) := by
    rw [hW0]
    have := World.alloc_heap_new (((w.alloc (.cells #[.int .i64 0, .int .i64 0, .slice none 0 0] 28)).alloc (.cells #[.int .i64 0] 31)).alloc (.cells #[.int .i64 0, .int .i64 0, .slice none 0 0] 28)) (.cells #[bstr s] 9)
    rwa [World.size_alloc, World.size_alloc, World.size_alloc] at this
  rw [← hW0]
  refine wpIn_rangeEnds (α := Str) (encs := fun x => #[bstr x]) (bs := fun k => k = w.heap.size + 3) (xs := lns s) hn1 (gf := 62) (lb := #[.pointer (some ⟨w.heap.size + 3, 0, none⟩)]) rfl (fun _ _ => Tryd.call62 _ _)
    (lines_ends s (w.heap.size + 3) (n - 1) W0 k3 (by omega) hn2) (fun b hb => by rw [hb, hs0]; omega) (fun _ => rfl) (PrsI w) (PrsX s w)
    (fun pre A B row hi hg hr => prsI_keep hi hg fun r e => by rw [hs0] at hr; exact hr r e) (fun A B row hi hg hr => prsX_keep hi hg fun r e => by rw [hs0] at hr; exact hr r e)
    ⟨⟨mdZ, _, rfl, by unfold MdIn in64; simp, Nat.le_refl _, k2, rfl, .inl ⟨rfl, rfl⟩⟩, k0, k1, by omega, hB0⟩
    (fun x => { tmps := #[bstr s, undef, .pointer (some ⟨w.heap.size, 0, none⟩), .pointer (some ⟨w.heap.size + 1, 0, none⟩), .pointer (some ⟨w.heap.size + 2, 0, none⟩), bstr x, undef, undef, undef, undef, undef, undef, undef, bstr s, .int .i64 (s.length : Int), .bool false, undef, bstr s, .func (.func 62) #[] #[.pointer (some ⟨w.heap.size + 3, 0, none⟩)], bstr x, undef, undef, undef, undef, undef, undef, undef, undef, undef, undef, undef, undef, undef, undef, undef, undef, undef, undef, undef, undef, undef, undef, undef, undef, undef, undef, undef, undef, undef, undef, undef, undef, undef, undef, undef, undef, undef, undef, undef, undef, undef, undef, undef, undef, undef, undef, undef, undef, undef, undef, undef, undef, undef, undef, undef], defers := [] }) ?_ ?_ ?_ ?_
  · rintro lp x W K hK
    rw [zip1]
    show Code.wpIn _ _ _ _ _ { tmps := #[bstr s, undef, .pointer (some ⟨w.heap.size, 0, none⟩), .pointer (some ⟨w.heap.size + 1, 0, none⟩), .pointer (some ⟨w.heap.size + 2, 0, none⟩), undef, undef, undef, undef, undef, undef, undef, undef, bstr s, .int .i64 (s.length : Int), .bool false, undef, bstr s, .func (.func 62) #[] #[.pointer (some ⟨w.heap.size + 3, 0, none⟩)], bstr x, undef, undef, undef, undef, undef, undef, undef, undef, undef, undef, undef, undef, undef, undef, undef, undef, undef, undef, undef, undef, undef, undef, undef, undef, undef, undef, undef, undef, undef, undef, undef, undef, undef, undef, undef, undef, undef, undef, undef, undef, undef, undef, undef, undef, undef, undef, undef, undef, undef, undef, undef, undef, undef, undef, undef], defers := [] } W
    gi_wp2_with (rw [Oper.semAt_eq _ _ _ (fun c h => by cases h)]; go_simp; try go_bits)
    exact hK
  · rintro lp pre x post W hpost hI
    obtain ⟨⟨m, v, h1, h2, h3, h4, h5⟩, h6, h7, h8, h9⟩ := id hI
    obtain ⟨hx1, hx2⟩ := lns_bytes hpost
    have ht := trimN_le x
    have hl1 := spl_len 32 (trimN x)
    have hl2 := spl_each 32 (trimN x)
    obtain ⟨w0, tl, hL⟩ : ∃ w0 tl, spl 32 (trimN x) = w0 :: tl := by
      cases h : spl 32 (trimN x) with
      | nil => exact absurd h (spl_ne 32 (trimN x))
      | cons a b => exact ⟨a, b, rfl⟩
    have hgW : Gd W := gd_below h9 hg0
    have cT := trim_in (n := n - 1 - 1 - 1) (lp := lp) (x := x) (by omega) hgW
    have cS := fun (W1 : World) (hb : Below W.heap.size W W1) => split_in (n := n - 1 - 1 - 1) (lp := lp) (by omega) hL (gd_below hb hgW)
    have hps : pstep m x = if w0 = wNow ∧ (w0 :: tl).length = 2 then (if (readV (tl.headD [])).2 = 0 then some ⟨(readV (tl.headD [])).1.1, (readV (tl.headD [])).1.2, m.l⟩ else none) else match rdPt wholeV tl with | some p => some ⟨m.n, m.d, m.l ++ [p]⟩ | none => none := by
      unfold pstep
      rw [hL]
      cases tl <;> rfl
    rw [hL] at hl1 hl2
    rw [List.length_cons] at hl1
    obtain ⟨a0, a1, a2, b0, b1, b2⟩ := cells3 h6
    obtain ⟨d0, d1, d2, f0, f1, f2⟩ := cells3 h4
    have e0 := h7.cell
    have e1 := h7.frozen
    have lw : w.heap.size + 2 < W.heap.size := by omega
    generalize trimN x = t at *
    by_cases hc : w0 = wNow ∧ tl.length = 1
    · obtain ⟨hw0, htl⟩ := hc
      · obtain ⟨y, rfl⟩ : ∃ y, tl = [y] := by
          match tl, htl with
          | [y], _ => exact ⟨y, rfl⟩
        subst hw0
        have hy : y.length ≤ 2500 := by have := hl2 y (by simp); omega
        have cN := fun (W1 : World) (hb : Below W.heap.size W W1) => number_in (n := n - 1 - 1 - 1) (lp := lp) hy (gd_below hb hgW)
        rw [if_pos ⟨rfl, rfl⟩] at hps
        replace hps : pstep m x = if (readV y).2 = 0 then some ⟨(readV y).1.1, (readV y).1.2, m.l⟩ else none := hps
        simp only [List.length_cons, List.length_nil, Nat.zero_add, Nat.reduceAdd] at cS
        have hwn : decide (wNow = [110, 111, 119]) = true := by decide
        clear hL hl1 hl2
        obtain ⟨qn, hqn⟩ : ∃ n, n = (readV y).1.1 := ⟨_, rfl⟩
        obtain ⟨qd, hqd⟩ : ∃ n, n = (readV y).1.2 := ⟨_, rfl⟩
        obtain ⟨qe, hqe⟩ : ∃ n, n = (readV y).2 := ⟨_, rfl⟩
        rw [← hqn, ← hqd, ← hqe] at hps
        simp only [← hqn, ← hqd, ← hqe] at cN
        clear hqn hqd hqe
        have kp : ∀ {W' : World}, Below W.heap.size W W' → ∀ b o, b ≤ w.heap.size + 2 → W'.cell? ⟨b, o, none⟩ = W.cell? ⟨b, o, none⟩ ∧ W'.frozen? ⟨b, o, none⟩ = W.frozen? ⟨b, o, none⟩ := fun hb b o h => ⟨World.cell?_of_block (hb.block b (by omega)), World.frozen?_of_block (hb.block b (by omega))⟩
        by_cases hq : qe = 0
        · rw [if_pos hq] at hps
          subst hq
          gi_wp2_with (first
            | (gi_at_call 38; (with_reducible refine CallsIn.mono cT ?_); rintro e W1 ⟨rfl, B1⟩)
            | (gi_at_call 37; (with_reducible refine CallsIn.mono (cS _ B1) ?_); rintro e W2 ⟨bL, oL, cL, rfl, hcL, hbL, hcell, hrL, B2⟩; have z0 := hcell 0 (by simp); have z1 := hcell 1 (by simp); simp only [Nat.add_zero, List.getElem_cons_zero, List.getElem_cons_succ] at z0 z1; have B12 := B1.trans (B2.mono B1.size))
            | (gi_at_call 30; (with_reducible refine CallsIn.mono (cN _ B12) ?_); rintro e W3 ⟨rfl, i1, i2, B3⟩; have B13 := B12.trans (B3.mono B12.size); have B14 : Below W.heap.size W (W3.alloc (.cells #[.int .i64 qn, .int .i64 qd] 23)) := B13.alloc B13.size _; have g0 := (kp B14 (w.heap.size + 2) 0 (by omega)).1.trans d0; have g1 := (kp B14 (w.heap.size + 2) 1 (by omega)).1.trans d1; have g3 := (kp B14 (w.heap.size + 2) 0 (by omega)).2.trans f0; have g4 := (kp B14 (w.heap.size + 2) 1 (by omega)).2.trans f1)
            | (rw [Oper.semAt_eq _ _ _ (fun c h => by cases h)]; go_simp; try go_bits))
          refine ⟨((ko_below B14).trans (KeepsOthers.setCell _ _ _)).trans (KeepsOthers.setCell _ _ _), ?_, ⟨⟨qn, qd, m.l⟩, v, ?_, ⟨i1, i2, h2.2.2⟩, ?_, ?_, ?_⟩, ?_, ?_, ?_, ?_⟩
          · rintro b rfl
            exact (setCell_other (by show _ ≠ w.heap.size + 2; omega)).trans ((setCell_other (by show _ ≠ w.heap.size + 2; omega)).trans (B14.block _ (by omega)))
          · rw [prsL_one pre x mdZ m h1]; exact hps
          · simp only [List.length_append]; omega
          · exact (set3 _ (set3 _ ((B14.block _ (by omega)).trans h4)).1).2.1
          · exact owns_set (owns_set (owns_below h5 B14) _ _ (by show w.heap.size + 2 < _; omega)) _ _ (by show w.heap.size + 2 < _; omega)
          · exact (setCell_other (by show _ ≠ w.heap.size + 2; omega)).trans ((setCell_other (by show _ ≠ w.heap.size + 2; omega)).trans ((B14.block _ (by omega)).trans h6))
          · exact (setCell_other (by show _ ≠ w.heap.size + 2; omega)).trans ((setCell_other (by show _ ≠ w.heap.size + 2; omega)).trans ((B14.block _ (by omega)).trans h7))
          · exact Nat.le_trans h8 (Nat.le_trans B14.size (Nat.le_trans (KeepsOthers.setCell _ _ _).size (KeepsOthers.setCell _ _ _).size))
          · exact ((h9.trans (B14.mono h9.size)).setCell (by show _ ≤ w.heap.size + 2; omega) _).setCell (by show _ ≤ w.heap.size + 2; omega) _
        · rw [if_neg hq] at hps
          gi_wp2_with (first
            | (gi_at_call 38; (with_reducible refine CallsIn.mono cT ?_); rintro e W1 ⟨rfl, B1⟩)
            | (gi_at_call 37; (with_reducible refine CallsIn.mono (cS _ B1) ?_); rintro e W2 ⟨bL, oL, cL, rfl, hcL, hbL, hcell, hrL, B2⟩; have z0 := hcell 0 (by simp); have z1 := hcell 1 (by simp); simp only [Nat.add_zero, List.getElem_cons_zero, List.getElem_cons_succ] at z0 z1; have B12 := B1.trans (B2.mono B1.size))
            | (gi_at_call 30; (with_reducible refine CallsIn.mono (cN _ B12) ?_); rintro e W3 ⟨rfl, i1, i2, B3⟩; have B13 := B12.trans (B3.mono B12.size); have B14 : Below W.heap.size W (W3.alloc (.cells #[.int .i64 qn, .int .i64 qd] 23)) := B13.alloc B13.size _; have g0 := (kp B14 w.heap.size 0 (by omega)).1.trans a0; have g1 := (kp B14 w.heap.size 1 (by omega)).1.trans a1; have g2 := (kp B14 w.heap.size 2 (by omega)).1.trans a2; have g3 := (kp B14 w.heap.size 0 (by omega)).2.trans b0; have g4 := (kp B14 w.heap.size 1 (by omega)).2.trans b1; have g5 := (kp B14 w.heap.size 2 (by omega)).2.trans b2; have g6 := (kp B14 (w.heap.size + 1) 0 (by omega)).1.trans e0; have g7 := (kp B14 (w.heap.size + 1) 0 (by omega)).2.trans e1)
            | (rw [Oper.semAt_eq _ _ _ (fun c h => by cases h)]; go_simp; try go_bits))
          have hst : prsL mdZ (lns s) = none := by rw [← hpost]; exact prsL_stop pre x post mdZ m h1 hps
          exact ⟨(ko_below B14).trans (ko_stop _ _), prsX_stop hst ((B14.block _ (by omega)).trans h6) ((B14.block _ (by omega)).trans h7) (Nat.le_trans h8 B14.size) (h9.trans (B14.mono h9.size))⟩
    · have hD : (w0 = [110, 111, 119] ∧ ((tl.length : Int) + 1 == 2) = false) ∨ ¬ w0 = [110, 111, 119] := by
        by_cases e : w0 = [110, 111, 119]
        · exact .inl ⟨e, beq_eq_false_iff_ne.2 fun h => hc ⟨e, by omega⟩⟩
        · exact .inr e
      rw [if_neg (fun h => hc ⟨h.1, by simpa using h.2⟩)] at hps
      have kp : ∀ {W' : World}, Below W.heap.size W W' → ∀ b o, b ≤ w.heap.size + 2 → W'.cell? ⟨b, o, none⟩ = W.cell? ⟨b, o, none⟩ ∧ W'.frozen? ⟨b, o, none⟩ = W.frozen? ⟨b, o, none⟩ := fun hb b o h => ⟨World.cell?_of_block (hb.block b (by omega)), World.frozen?_of_block (hb.block b (by omega))⟩
      have cP := fun (W1 : World) (hb : Below W.heap.size W W1) (v : Value) (hv : Rep W1 (fun _ => False) (strs tl) v) => point_in (n := n - 1 - 1 - 1) (lp := lp) (l := tl) (by omega) (fun z hz => by have := hl2 z (List.mem_cons_of_mem _ hz); omega) (gd_below hb hgW) hv
      clear hc
      cases hp : rdPt wholeV tl with
      | none =>
        rw [hp] at hps
        have cQ : ∀ (W1 : World) (hb : Below W.heap.size W W1) (v : Value) (hv : Rep W1 (fun _ => False) (strs tl) v), CallsIn (Fence.wide.inRound lp) (n - 1 - 1 - 1) Tryd.prog 39 #[v] W1 fun e w' => e = .returned (.tuple #[.agg #[.int .i64 0, .int .i64 0, .int .i64 0], .bool false]) ∧ Below W1.heap.size W1 w' := fun W1 hb v hv => (cP W1 hb v hv).mono fun e w' ⟨h, k⟩ => by
          rcases h with ⟨p, h, _⟩ | ⟨_, h⟩
          · rw [hp] at h; cases h
          · exact ⟨h, k⟩
        clear cP
        have hst : prsL mdZ (lns s) = none := by rw [← hpost]; exact prsL_stop pre x post mdZ m h1 hps
        rcases hD with ⟨rfl, hL2⟩ | hwn
        all_goals
          gi_wp2_with (first
            | (gi_at_call 38; (with_reducible refine CallsIn.mono cT ?_); rintro e W1 ⟨rfl, B1⟩)
            | (gi_at_call 37; (with_reducible refine CallsIn.mono (cS _ B1) ?_); rintro e W2 ⟨bL, oL, cL, rfl, hcL, hbL, hcell, hrL, B2⟩; have z0 := hcell 0 (by simp); simp only [Nat.add_zero, List.getElem_cons_zero, List.getElem_cons_succ] at z0; have B12 := B1.trans (B2.mono B1.size); clear hcell; obtain ⟨r1, r2⟩ := rep_tail hrL hcL)
            | (gi_at_call 39; (first | (with_reducible refine CallsIn.mono (cQ _ B12 _ (r1 (by assumption))) ?_) | (with_reducible refine CallsIn.mono (cQ _ B12 _ (r2 (by assumption))) ?_)); rintro e W3 ⟨rfl, B3⟩; have B13 := B12.trans (B3.mono B12.size); have B14 : Below W.heap.size W (W3.alloc (.cells #[.int .i64 0, .int .i64 0, .int .i64 0] 46)) := B13.alloc B13.size _; have g0 := (kp B14 w.heap.size 0 (by omega)).1.trans a0; have g1 := (kp B14 w.heap.size 1 (by omega)).1.trans a1; have g2 := (kp B14 w.heap.size 2 (by omega)).1.trans a2; have g3 := (kp B14 w.heap.size 0 (by omega)).2.trans b0; have g4 := (kp B14 w.heap.size 1 (by omega)).2.trans b1; have g5 := (kp B14 w.heap.size 2 (by omega)).2.trans b2; have g6 := (kp B14 (w.heap.size + 1) 0 (by omega)).1.trans e0; have g7 := (kp B14 (w.heap.size + 1) 0 (by omega)).2.trans e1)
            | (rw [Oper.semAt_eq _ _ _ (fun c h => by cases h)]; go_simp; try go_bits))
        all_goals exact ⟨(ko_below B14).trans (ko_stop _ _), prsX_stop hst ((B14.block _ (by omega)).trans h6) ((B14.block _ (by omega)).trans h7) (Nat.le_trans h8 B14.size) (h9.trans (B14.mono h9.size))⟩
      | some p =>
        rw [hp] at hps
        replace hps : pstep m x = some ⟨m.n, m.d, m.l ++ [p]⟩ := hps
        have cQ : ∀ (W1 : World) (hb : Below W.heap.size W W1) (v : Value) (hv : Rep W1 (fun _ => False) (strs tl) v), CallsIn (Fence.wide.inRound lp) (n - 1 - 1 - 1) Tryd.prog 39 #[v] W1 fun e w' => e = .returned (.tuple #[.agg #[.int .i64 p.id, .int .i64 p.a, .int .i64 p.b], .bool true]) ∧ (in64 p.id ∧ in64 p.a ∧ in64 p.b) ∧ Below W1.heap.size W1 w' := fun W1 hb v hv => (cP W1 hb v hv).mono fun e w' ⟨h, k⟩ => by
          rcases h with ⟨q, h, i1, i2, i3, h'⟩ | ⟨h, _⟩
          · rw [hp] at h
            injection h with h
            subst h
            exact ⟨h', ⟨i1, i2, i3⟩, k⟩
          · rw [hp] at h; cases h
        clear cP
        obtain ⟨te, he, hsz, _, _, ti, tz, hi0, hsz0, hz0, hzs, _, hby⟩ := (ty_ok 24 (.sl 3 true [.v (.int .i64 0), .v (.int .i64 0), .v (.int .i64 0)]) rfl).2.2.2
        have hee : te = 46 := by
          have := he.symm.trans Tryd.underlying24
          injection this with this; injection this
        subst hee
        have o3 : ∀ u ∈ ([.int .i64 p.id, .int .i64 p.a, .int .i64 p.b] : List Value), u.oneCell' = true := by simp [Value.oneCell']
        have q1 : m.l.length + 1 ≤ maxLen := by unfold maxLen; omega
        have q2 : (m.l.length + 1) * ti.bytes ≤ 140737488355328 := by
          have : (m.l.length + 1) * ti.bytes ≤ 10001 * 65536 := Nat.mul_le_mul (by omega) hby
          omega
        rcases hD with ⟨rfl, hL2⟩ | hwn
        all_goals
          gi_wp2_with (first
            | (gi_at_call 38; (with_reducible refine CallsIn.mono cT ?_); rintro e W1 ⟨rfl, B1⟩)
            | (gi_at_call 37; (with_reducible refine CallsIn.mono (cS _ B1) ?_); rintro e W2 ⟨bL, oL, cL, rfl, hcL, hbL, hcell, hrL, B2⟩; have z0 := hcell 0 (by simp); simp only [Nat.add_zero, List.getElem_cons_zero, List.getElem_cons_succ] at z0; have B12 := B1.trans (B2.mono B1.size); clear hcell; obtain ⟨r1, r2⟩ := rep_tail hrL hcL)
            | (gi_at_call 39; (first | (with_reducible refine CallsIn.mono (cQ _ B12 _ (r1 (by assumption))) ?_) | (with_reducible refine CallsIn.mono (cQ _ B12 _ (r2 (by assumption))) ?_)); rintro e W3 ⟨rfl, i1, B3⟩; have B13 := B12.trans (B3.mono B12.size); have B14 : Below W.heap.size W (W3.alloc (.cells #[.int .i64 p.id, .int .i64 p.a, .int .i64 p.b] 46)) := B13.alloc B13.size _; have B15 := B14.alloc B14.size (.cells #[.int .i64 p.id, .int .i64 p.a, .int .i64 p.b] 46); have sz4 : (W3.alloc (.cells #[.int .i64 p.id, .int .i64 p.a, .int .i64 p.b] 46)).heap.size = W3.heap.size + 1 := World.size_alloc _ _; have sB := B15.size; have hrow := owns_below h5 B15; have cM := cM3 W3 p; have g2 := (kp B14 (w.heap.size + 2) 2 (by omega)).1.trans d2; have g5 := (kp B14 (w.heap.size + 2) 2 (by omega)).2.trans f2)
            | (gi_at_builtin; refine wpListIn_append_own _ rfl _ _ 24 rfl (w.heap.size + 4) 46 ti tz 3 ti.bytes Tryd.underlying24 hi0 hz0 hsz0 rfl hzs (by decide) _ _ _ rfl hrow ⟨W3.heap.size + 1, 0, none⟩ 1 1 [.int .i64 p.id, .int .i64 p.a, .int .i64 p.b] rfl rfl cM o3 q1 q2 (Nat.le_trans h8 sB) ?_; intro v' W5 hown' hg3 hnil3; obtain ⟨g', cap', hv'⟩ := ownsRow_succ hown'; subst hv'; have c3 := (World.cell?_of_block (hg3.block (w.heap.size + 2) (by omega) (own_ne h5 (by omega)))).trans ((kp B15 (w.heap.size + 2) 2 (by omega)).1.trans d2); have c4 := (World.frozen?_of_block (hg3.block (w.heap.size + 2) (by omega) (own_ne h5 (by omega)))).trans ((kp B15 (w.heap.size + 2) 2 (by omega)).2.trans f2))
            | (rw [Oper.semAt_eq _ _ _ (fun c h => by cases h)]; go_simp; try go_bits))
        all_goals
          refine ⟨((ko_below B15).trans (KeepsOthers.of_grownBy hg3 fun j o ej hj => (own_cells hrow ej hj).1)).trans (KeepsOthers.setCell _ _ _), ?_, ⟨⟨m.n, m.d, m.l ++ [p]⟩, .slice (some ⟨g', 0, none⟩) (m.l.length + 1) cap', ?_, ⟨h2.1, h2.2.1, ?_⟩, ?_, ?_, ?_⟩, ?_, ?_, ?_, ?_⟩
          · rintro b rfl
            exact (setCell_other (by show _ ≠ w.heap.size + 2; omega)).trans ((hg3.block _ (by omega) (own_ne h5 (by omega))).trans (B15.block _ (by omega)))
          · rw [prsL_one pre x mdZ m h1]; exact hps
          · intro q hq
            rcases List.mem_append.1 hq with hq | hq
            · exact h2.2.2 q hq
            · obtain rfl := List.mem_singleton.1 hq; exact i1
          · simp only [List.length_append, List.length_cons, List.length_nil]; omega
          · exact (set3 _ ((hg3.block _ (by omega) (own_ne h5 (by omega))).trans ((B15.block _ (by omega)).trans h4))).2.2
          · refine owns_set ?_ _ _ (by show w.heap.size + 2 < _; omega)
            simpa [Pt.vals] using hown'
          · exact setCell_o (by omega) ((hg3.block _ (by omega) (own_ne h5 (by omega))).trans ((B15.block _ (by omega)).trans h6))
          · exact setCell_o (by omega) ((hg3.block _ (by omega) (own_ne h5 (by omega))).trans ((B15.block _ (by omega)).trans h7))
          · exact Nat.le_trans h8 (Nat.le_trans sB (Nat.le_trans hg3.size (KeepsOthers.setCell _ _ _).size))
          · exact (below_row (h9.trans (B15.mono h9.size)) (Nat.le_trans h9.size sB) hg3 fun r e => Nat.le_trans (by omega) (own_base h5 e)).setCell (by show _ ≤ w.heap.size + 2; omega) _
  · intro D W hD hI hK
    obtain ⟨⟨m, v, h1, h2, h3, h4, h5⟩, h6, h7, h8, h9⟩ := hI
    obtain ⟨a0, a1, a2, b0, b1, b2⟩ := cells3 h6
    obtain ⟨d0, d1, d2, f0, f1, f2⟩ := cells3 h4
    have e0 := h7.cell
    have e1 := h7.frozen
    have hgW : Gd W := gd_below h9 hg0
    have hpv : parseV s = backM s (some m) := by unfold parseV prsV; rw [if_neg (by omega), h1]
    have hT : CallsIn Fence.wide (n - 1) Tryd.prog 10 #[.agg #[.int .i64 m.n, .int .i64 m.d, v]] W fun e w' => e = .returned (.tuple #[bstr (textSV m).1, .int .i64 (textSV m).2]) ∧ Below W.heap.size W w' :=
      (fn_in' (vs := [.agg #[.int .i64 m.n, .int .i64 m.d, v]]) (fun _ _ => Tryd.call10 _ _) rfl (cText_fn m) hgW ⟨⟨[.int .i64 m.n, .int .i64 m.d, v], rfl, .v _ rfl h2.1, .v _ rfl h2.2.1, rep_owned h5 h2.2.2 (fun _ h => h.elim), trivial⟩, trivial⟩).mono fun e w' ⟨h1, _, h2⟩ => ⟨h1, h2⟩
    have kp : ∀ {W' : World}, Below W.heap.size W W' → ∀ b o, b ≤ w.heap.size + 2 → W'.cell? ⟨b, o, none⟩ = W.cell? ⟨b, o, none⟩ ∧ W'.frozen? ⟨b, o, none⟩ = W.frozen? ⟨b, o, none⟩ := fun hb b o h => ⟨World.cell?_of_block (hb.block b (by omega)), World.frozen?_of_block (hb.block b (by omega))⟩
    obtain ⟨va, vk, vc, rfl⟩ : ∃ a k c, v = .slice a k c := by
      rcases h5.2 with ⟨rfl, _⟩ | ⟨g, cap, cur, rfl, _⟩
      · exact ⟨_, _, _, rfl⟩
      · exact ⟨_, _, _, rfl⟩
    rcases bm_cases m s with ⟨c1, c2, c3⟩ | ⟨c1, c2, c3⟩ | ⟨c1, c3⟩
    · have ht : textSV m = (s, 0) := by unfold textSV; rw [if_pos c1, c2]
      rw [ht] at hT
      simp only at hT
      gi_wp2_with (gi_at_call 10; (with_reducible refine CallsIn.mono hT ?_); rintro e W5 ⟨rfl, B5⟩; have g0 := (kp B5 w.heap.size 0 (by omega)).1.trans a0; have g1 := (kp B5 w.heap.size 1 (by omega)).1.trans a1; have g2 := (kp B5 w.heap.size 2 (by omega)).1.trans a2; have g3 := (kp B5 w.heap.size 0 (by omega)).2.trans b0; have g4 := (kp B5 w.heap.size 1 (by omega)).2.trans b1; have g5 := (kp B5 w.heap.size 2 (by omega)).2.trans b2; have g6 := (kp B5 (w.heap.size + 1) 0 (by omega)).1.trans e0; have g7 := (kp B5 (w.heap.size + 1) 0 (by omega)).2.trans e1; have k0 := (kp B5 (w.heap.size + 2) 0 (by omega)).1.trans d0; have k1 := (kp B5 (w.heap.size + 2) 1 (by omega)).1.trans d1; have k2 := (kp B5 (w.heap.size + 2) 2 (by omega)).1.trans d2)
      have X := prs_ok (.int .i64 m.n) (.int .i64 m.d) (.slice va vk vc) ((B5.block _ (by omega)).trans h6) ((B5.block _ (by omega)).trans h7) (Nat.le_trans h8 B5.size) (h9.trans (B5.mono h9.size))
      have X5 : (okW w.heap.size W5 (.int .i64 m.n) (.int .i64 m.d) (.slice va vk vc)).ownsRow (w.heap.size + 4) 46 3 (.slice va vk vc) m.l.length (m.l.flatMap Pt.vals) :=
        owns_set (owns_set (owns_set (owns_set (owns_below h5 B5) _ _ (by show w.heap.size < _; omega)) _ _ (by show w.heap.size < _; omega)) _ _ (by show w.heap.size < _; omega)) _ _ (by show w.heap.size + 1 < _; omega)
      obtain ⟨x6, x7, x8, x9⟩ := X
      have xD := (ko_ok w.heap.size W5 (.int .i64 m.n) (.int .i64 m.d) (.slice va vk vc)).same _ _ ((B5.block D (Array.getElem?_eq_some_iff.1 hK).1).trans hK) rfl
      refine parse_end rfl rfl x6 x7 x8 x9 (by omega) xD ?_
      rw [hpv, c3]
      exact ⟨_, rfl, ⟨_, rfl, .v _ rfl h2.1, .v _ rfl h2.2.1, rep_owned (ownsRow_putObj X5 _ xD rfl) h2.2.2 (fun b hb => by have := hM b hb; omega), trivial⟩, .v _ rfl ⟨by show (-9223372036854775808 : Int) ≤ 0; decide, by show (0 : Int) ≤ 9223372036854775807; decide⟩, trivial⟩
    · have ht : textSV m = (textT m, 0) := by unfold textSV; rw [if_pos c1]
      rw [ht] at hT
      simp only at hT
      have hne : (textT m == s) = false := beq_eq_false_iff_ne.2 c2
      gi_wp2_with (gi_at_call 10; (with_reducible refine CallsIn.mono hT ?_); rintro e W5 ⟨rfl, B5⟩; have g0 := (kp B5 w.heap.size 0 (by omega)).1.trans a0; have g1 := (kp B5 w.heap.size 1 (by omega)).1.trans a1; have g2 := (kp B5 w.heap.size 2 (by omega)).1.trans a2; have g3 := (kp B5 w.heap.size 0 (by omega)).2.trans b0; have g4 := (kp B5 w.heap.size 1 (by omega)).2.trans b1; have g5 := (kp B5 w.heap.size 2 (by omega)).2.trans b2; have g6 := (kp B5 (w.heap.size + 1) 0 (by omega)).1.trans e0; have g7 := (kp B5 (w.heap.size + 1) 0 (by omega)).2.trans e1; have k0 := (kp B5 (w.heap.size + 2) 0 (by omega)).1.trans d0; have k1 := (kp B5 (w.heap.size + 2) 1 (by omega)).1.trans d1; have k2 := (kp B5 (w.heap.size + 2) 2 (by omega)).1.trans d2)
      have X := prsX_stop0 (s := s) ((B5.block _ (by omega)).trans h6) ((B5.block _ (by omega)).trans h7) (Nat.le_trans h8 B5.size) (h9.trans (B5.mono h9.size))
      obtain ⟨x6, x7, x8, x9⟩ := X
      refine parse_end rfl rfl x6 x7 x8 x9 (by omega) ((ko_stop _ _).same _ _ ((B5.block D (Array.getElem?_eq_some_iff.1 hK).1).trans hK) rfl) ?_
      rw [hpv, c3]
      exact ⟨_, rfl, ⟨_, rfl, .v _ rfl ⟨by decide, by decide⟩, .v _ rfl ⟨by decide, by decide⟩, .nil 3 none 0 (by decide) (fun _ => rfl), trivial⟩, .v _ rfl ⟨by decide, by decide⟩, trivial⟩
    · have ht : textSV m = ([], 8) := by unfold textSV; rw [if_neg (by omega)]
      rw [ht] at hT
      simp only at hT
      gi_wp2_with (gi_at_call 10; (with_reducible refine CallsIn.mono hT ?_); rintro e W5 ⟨rfl, B5⟩; have g0 := (kp B5 w.heap.size 0 (by omega)).1.trans a0; have g1 := (kp B5 w.heap.size 1 (by omega)).1.trans a1; have g2 := (kp B5 w.heap.size 2 (by omega)).1.trans a2; have g3 := (kp B5 w.heap.size 0 (by omega)).2.trans b0; have g4 := (kp B5 w.heap.size 1 (by omega)).2.trans b1; have g5 := (kp B5 w.heap.size 2 (by omega)).2.trans b2; have g6 := (kp B5 (w.heap.size + 1) 0 (by omega)).1.trans e0; have g7 := (kp B5 (w.heap.size + 1) 0 (by omega)).2.trans e1; have k0 := (kp B5 (w.heap.size + 2) 0 (by omega)).1.trans d0; have k1 := (kp B5 (w.heap.size + 2) 1 (by omega)).1.trans d1; have k2 := (kp B5 (w.heap.size + 2) 2 (by omega)).1.trans d2)
      have X := prsX_stop0 (s := s) ((B5.block _ (by omega)).trans h6) ((B5.block _ (by omega)).trans h7) (Nat.le_trans h8 B5.size) (h9.trans (B5.mono h9.size))
      obtain ⟨x6, x7, x8, x9⟩ := X
      refine parse_end rfl rfl x6 x7 x8 x9 (by omega) ((ko_stop _ _).same _ _ ((B5.block D (Array.getElem?_eq_some_iff.1 hK).1).trans hK) rfl) ?_
      rw [hpv, c3]
      exact ⟨_, rfl, ⟨_, rfl, .v _ rfl ⟨by decide, by decide⟩, .v _ rfl ⟨by decide, by decide⟩, .nil 3 none 0 (by decide) (fun _ => rfl), trivial⟩, .v _ rfl ⟨by decide, by decide⟩, trivial⟩
  · intro D W hD hX hK
    obtain ⟨h1, h6, h7, h8, h9⟩ := hX
    have hpv : parseV s = (mdZ, 12) := by unfold parseV prsV; rw [if_neg (by omega), h1]; rfl
    gi_wp2
    refine parse_end rfl rfl h6 h7 h8 h9 (by omega) hK ?_
    rw [hpv]
    exact ⟨_, rfl, ⟨_, rfl, .v _ rfl ⟨by decide, by decide⟩, .v _ rfl ⟨by decide, by decide⟩, .nil 3 none 0 (by decide) (fun _ => rfl), trivial⟩, .v _ rfl ⟨by decide, by decide⟩, trivial⟩
set_option maxRecDepth 100000 in
theorem parse_big (s : Str) (hs : 2500 < s.length) (hs0 : s.length ≤ 9223372036854775807) : FnOK Tryd.prog 12 [.one (str s)] (retMd (mdZ, 4)) := by
  refine fn_ok (by kernel_rfl) ty_ok Tryd.func12 rfl (fun _ _ => Tryd.call12 _ _) rfl ?_
  intro hw
  clear hw
  repeat' ((conv => whnf); first | (with_reducible first | refine br_t ?_ | refine br_f ?_ | refine za ?_ | refine zg ?_) | refine zsl ?_ | refine zsg ?_ | refine zss ?_ | refine zs1 ?_ | refine zse ?_ | refine zsn ?_ | refine zsc ?_ | (with_reducible first | refine zpa ?_ | refine zqa ?_) | refine zp ?_ | refine zq ?_ | (with_reducible first | refine bc (fun h => ?_) (fun h => ?_) | refine zt ?_ | refine zf ?_ | refine br_i (fun h => ?_) (fun h => ?_)) | refine zg ?_ | refine zi ?_ | refine zb ?_)
  all_goals conv => whnf
  all_goals rfl
theorem cParse_fn (s : Str) (hs0 : s.length ≤ 9223372036854775807) : FnOK Tryd.prog 12 [.one (str s)] (retMd (parseV s)) := by
  by_cases hs : 2500 < s.length
  · have e : parseV s = (mdZ, 4) := if_pos hs
    rw [e]
    exact parse_big s hs hs0
  · refine fun w M vs hM hvs => .inl ⟨12, Tryd.call12 _ _, ?_⟩
    match vs, hvs with
    | [v], hvs =>
      have hv : v = bstr s := by
        have := hvs.1
        cases this; rfl
      subst hv
      exact callsIn_wide.1 (parse_in (n := 6) s (by omega) w hM.gd M hM.lt (Nat.le_refl _))
    | [], hvs => exact hvs.elim
    | _ :: _ :: _, hvs => exact hvs.2.elim
end Go.Proofs.YtgdpogdgpfjnoaaDoor

namespace Go.Proofs.YtgdpogdgpfjnoaaDoor
open Go Go.RowKit Go.Sort Sx
open Go.Lib hiding intOf
set_option maxRecDepth 100000 in
theorem CLorder_fn (a : Ak) (s : Str) (h : akchk a = 0) (hs : ordT a = s) (hl : s.length ≤ 1000) : FnOK Tryd.prog 17 [a.dc, .one (str s)] (.c (.one (bol true))) := by
  have H1 := cOrder_fn a
  have H2 := cReadOrder_fn s hl
  rw [show ordSV a = (s, 0) by unfold ordSV; rw [if_pos h, hs]] at H1
  rw [show rordV s = (a, 0) by rw [← hs]; exact rordV_is.of a h] at H2
  obtain ⟨k, ⟨p1, p2, p3⟩, i, n, d⟩ := a
  simp only [retS, retAk, Ak.dc] at *
  refine fn_ok (by kernel_rfl) ty_ok Tryd.func17 rfl (fun _ _ => Tryd.call17 _ _) rfl ?_
  intro hw
  clear hw
  repeat' ((conv => whnf); first | (with_reducible first | refine br_t ?_ | refine br_f ?_ | refine za ?_ | refine zg ?_) | refine zsl ?_ | refine zsg ?_ | refine zss ?_ | refine zs1 ?_ | refine zse ?_ | refine zsn ?_ | refine zsc ?_ | (with_reducible first | refine zpa ?_ | refine zqa ?_) | refine zp ?_ | refine zq ?_ | (with_reducible first | refine bc (fun h => ?_) (fun h => ?_) | refine zt ?_ | refine zf ?_ | refine br_i (fun h => ?_) (fun h => ?_) | refine xi (pv_bool fun _ => eqv48 _ _ _ _ _ _ _ _ _ _ _ _ _ _ _ _ _) ?_) | refine zg ?_ | refine zi ?_ | refine zb ?_)
  all_goals conv => whnf
  all_goals first | rfl | exact r_bool (by simp)
set_option maxRecDepth 100000 in
theorem CLnone_fn (s : Str) (h : rordV s = (ak0, 12)) (hl : s.length ≤ 1000) : FnOK Tryd.prog 18 [.one (str s)] (.c (.one (bol true))) := by
  have H2 := cReadOrder_fn s hl
  rw [h] at H2
  simp only [retAk, Ak.dc, ak0] at *
  refine fn_ok (by kernel_rfl) ty_ok Tryd.func18 rfl (fun _ _ => Tryd.call18 _ _) rfl ?_
  intro hw
  clear hw
  repeat' ((conv => whnf); first | (with_reducible first | refine br_t ?_ | refine br_f ?_ | refine za ?_ | refine zg ?_) | refine zsl ?_ | refine zsg ?_ | refine zss ?_ | refine zs1 ?_ | refine zse ?_ | refine zsn ?_ | refine zsc ?_ | (with_reducible first | refine zpa ?_ | refine zqa ?_) | refine zp ?_ | refine zq ?_ | (with_reducible first | refine bc (fun h => ?_) (fun h => ?_) | refine zt ?_ | refine zf ?_ | refine br_i (fun h => ?_) (fun h => ?_) | refine xi (pv_bool fun _ => eqv48 _ _ _ _ _ _ _ _ _ _ _ _ _ _ _ _ _) ?_) | refine zg ?_ | refine zi ?_ | refine zb ?_)
  all_goals conv => whnf
  all_goals first | rfl | exact r_bool (by simp)
def alT : Str := [110, 111, 119, 32, 45, 49, 47, 50, 10, 112, 111, 105, 110, 116, 32, 51, 32, 48, 32, 45, 55, 10]
set_option maxRecDepth 100000 in
set_option maxHeartbeats 2000000 in
theorem CLalive_fn : FnOK Tryd.prog 22 [] (.c (.one (bol true))) := by
  have e1 : textT ⟨-1, 2, [⟨3, 0, -7⟩]⟩ = alT := by kernel_rfl
  have e0 : mchk ⟨-1, 2, [⟨3, 0, -7⟩]⟩ = 0 := by kernel_rfl
  have H1 := cText_fn ⟨-1, 2, [⟨3, 0, -7⟩]⟩
  rw [show textSV ⟨-1, 2, [⟨3, 0, -7⟩]⟩ = (alT, 0) by unfold textSV; rw [if_pos e0, e1]] at H1
  have H2 := cParse_fn alT (by decide)
  rw [show parseV alT = (⟨-1, 2, [⟨3, 0, -7⟩]⟩, 0) by unfold parseV; rw [if_neg (by decide), ← e1]; exact prsV_is.of _ e0] at H2
  have H3 := roSameModel_fn ⟨-1, 2, [⟨3, 0, -7⟩]⟩ ⟨-1, 2, [⟨3, 0, -7⟩]⟩
  simp only [decide_true] at H3
  have O1 := CLorder_fn ⟨2, ⟨0, 0, 0⟩, 3, 0, 0⟩ [116, 97, 107, 101, 32, 51] (by kernel_rfl) (by kernel_rfl) (by decide)
  have O2 := CLorder_fn ⟨4, ⟨0, 0, 0⟩, 0, 5, 1⟩ [109, 111, 118, 101, 32, 53] (by kernel_rfl) (by kernel_rfl) (by decide)
  have N1 := CLnone_fn [109, 111, 118, 101, 32, 52, 47, 50] (by kernel_rfl) (by decide)
  have N2 := CLnone_fn [109, 111, 118, 101, 32, 53, 47, 49] (by kernel_rfl) (by decide)
  have N3 := CLnone_fn [116, 97, 107, 101, 32, 48, 51] (by kernel_rfl) (by decide)
  have N4 := CLnone_fn [116, 97, 107, 101, 32, 45, 48] (by kernel_rfl) (by decide)
  have N5 := CLnone_fn [108, 101, 97, 100, 32] (by kernel_rfl) (by decide)
  clear e0 e1
  simp only [retS, retMd, Ak.dc, alT] at *
  replace H1 : FnOK Tryd.prog 10 [.agg [i64 (-1), i64 2, .list 3 [[i64 3, i64 0, i64 (-7)]]]] (.tup [.one (str [110, 111, 119, 32, 45, 49, 47, 50, 10, 112, 111, 105, 110, 116, 32, 51, 32, 48, 32, 45, 55, 10]), .one (i64 0)]) := H1
  replace H2 : FnOK Tryd.prog 12 [.one (str [110, 111, 119, 32, 45, 49, 47, 50, 10, 112, 111, 105, 110, 116, 32, 51, 32, 48, 32, 45, 55, 10])] (.tup [.agg [i64 (-1), i64 2, .list 3 [[i64 3, i64 0, i64 (-7)]]], .one (i64 0)]) := H2
  replace H3 : FnOK Tryd.prog 14 [.agg [i64 (-1), i64 2, .list 3 [[i64 3, i64 0, i64 (-7)]]], .agg [i64 (-1), i64 2, .list 3 [[i64 3, i64 0, i64 (-7)]]]] (.c (.one (bol true))) := H3
  refine fn_ok (by kernel_rfl) ty_ok Tryd.func22 rfl (fun _ _ => Tryd.call22 _ _) rfl ?_
  intro hw
  clear hw
  repeat' ((conv => whnf); first | (with_reducible first | refine br_t ?_ | refine br_f ?_ | refine za ?_ | refine zg ?_) | refine zsl ?_ | refine zsg ?_ | refine zss ?_ | refine zs1 ?_ | refine zse ?_ | refine zsn ?_ | refine zsc ?_ | (with_reducible first | refine zpa ?_ | refine zqa ?_) | refine zp ?_ | refine zq ?_ | (with_reducible first | refine bc (fun h => ?_) (fun h => ?_) | refine zt ?_ | refine zf ?_ | refine br_i (fun h => ?_) (fun h => ?_)) | refine zg ?_ | refine zi ?_ | refine zb ?_)
  all_goals conv => whnf
  trace_state
  all_goals first | rfl | exact r_bool (by decide)
end Go.Proofs.YtgdpogdgpfjnoaaDoor
