import Derived.Test.YtgdpogdgpfjnoaaDoorGLCTextsAP
import Derived.Test.YtgdpogdgpfjnoaaDoorGLCTextsAM
set_option linter.all false
namespace Go.Proofs.YtgdpogdgpfjnoaaDoor
open Go Go.RowKit Go.Sort Sx
open Go.Lib hiding intOf
theorem zip1 (a : Tmp) (x : Value) (t : Array Value) : ((#[a] : Array Tmp).zip #[x]).foldl (fun t (p, v) => t.setIfInBounds p v) t = t.setIfInBounds a x := by
  have e : (#[a] : Array Tmp).zip #[x] = #[(a, x)] := by apply Array.ext'; simp
  rw [e]; simp
theorem str_eql (t : Nat) (a b : Str) (w : World) : (binOp .eql t (bstr a) (bstr b)).run Tryd.prog w = .ok (.bool (decide (a = b))) w := by
  rw [binOp_string_eql, str_toList, str_toList]
  simp [go_sem]
  by_cases h : a = b <;> simp [h]
theorem trimN_le (x : Str) : (trimN x).length ≤ x.length := by
  unfold trimN
  split
  · rw [List.length_dropLast]; omega
  · exact Nat.le_refl _
theorem lns_bytes {s : Str} {pre post : List Str} {x : Str} (h : pre ++ x :: post = lns s) : x.length ≤ s.length ∧ pre.length ≤ s.length := by
  refine ⟨lns_each (by rw [← h]; simp), ?_⟩
  have := lns_len (s := s)
  rw [← h] at this
  simp at this
  omega
theorem trim_in {n lp : Nat} {x : Str} (hx : x.length ≤ 2500) {W : World} (hg : Gd W) : CallsIn (Fence.wide.inRound lp) n Tryd.prog 38 #[bstr x, bstr [10]] W fun e w' => e = .returned (bstr (trimN x)) ∧ Below W.heap.size W w' :=
  CallsIn.inRound lp ((fn_in' (vs := [bstr x, bstr [10]]) (fun _ _ => Tryd.call38 _ _) rfl (trim_fn (s := x) (c := 10) (by omega)) hg ⟨.v _ rfl trivial, .v _ rfl trivial, trivial⟩).mono fun e w' ⟨h1, _, h2⟩ => ⟨h1, h2⟩)
theorem split_in {n lp : Nat} {t w0 : Str} {tl : List Str} (ht : t.length ≤ 2500) (hL : spl 32 t = w0 :: tl) {W : World} (hg : Gd W) : CallsIn (Fence.wide.inRound lp) n Tryd.prog 37 #[bstr t, bstr [32]] W fun e w' => ∃ b off cap, e = .returned (.slice (some ⟨b, off, none⟩) (tl.length + 1) cap) ∧ tl.length + 1 ≤ cap ∧ b < w'.heap.size ∧ (∀ i (hi : i < (w0 :: tl).length), w'.cell? ⟨b, off + i, none⟩ = some (bstr (w0 :: tl)[i])) ∧ Rep w' (fun _ => False) (strs (w0 :: tl)) (.slice (some ⟨b, off, none⟩) (tl.length + 1) cap) ∧ Below W.heap.size W w' := by
  refine CallsIn.inRound lp ((fn_in (vs := [bstr t, bstr [32]]) (fun _ _ => Tryd.call37 _ _) (split_fn (s := t) (c := 32) (by omega)) hg ⟨.v _ rfl trivial, .v _ rfl trivial, trivial⟩).mono ?_)
  rintro e w' ⟨v, rfl, hv, hb⟩
  rw [hL] at hv
  obtain ⟨b, off, cap, rfl, h1, h2, h3⟩ := rep_strs (by simp) hv
  exact ⟨b, off, cap, rfl, h1, h2, h3, hv, hb⟩
theorem number_in {n lp : Nat} {y : Str} (hy : y.length ≤ 2500) {W : World} (hg : Gd W) : CallsIn (Fence.wide.inRound lp) n Tryd.prog 30 #[bstr y] W fun e w' => e = .returned (.tuple #[.agg #[.int .i64 (readV y).1.1, .int .i64 (readV y).1.2], .int .i64 (readV y).2]) ∧ in64 (readV y).1.1 ∧ in64 (readV y).1.2 ∧ Below W.heap.size W w' := by
  refine CallsIn.inRound lp ((fn_in' (vs := [bstr y]) (fun _ _ => Tryd.call30 _ _) rfl (cReadNumber_fn y (by omega)) hg ⟨.v _ rfl trivial, trivial⟩).mono ?_)
  rintro e w' ⟨h1, h2, h3⟩
  exact ⟨h1, wd_i64.1 h2.1.1, wd_i64.1 h2.1.2.1, h3⟩
theorem point_in {n lp : Nat} {l : List Str} (hl : l.length ≤ 2501) (hs : ∀ x ∈ l, x.length ≤ 2500) {W : World} (hg : Gd W) {v : Value} (hv : Rep W (fun _ => False) (strs l) v) : CallsIn (Fence.wide.inRound lp) n Tryd.prog 39 #[v] W fun e w' =>
    ((∃ p, rdPt wholeV l = some p ∧ in64 p.id ∧ in64 p.a ∧ in64 p.b ∧ e = .returned (.tuple #[.agg #[.int .i64 p.id, .int .i64 p.a, .int .i64 p.b], .bool true])) ∨ (rdPt wholeV l = none ∧ e = .returned (.tuple #[.agg #[.int .i64 0, .int .i64 0, .int .i64 0], .bool false]))) ∧ Below W.heap.size W w' := by
  refine CallsIn.inRound lp ((fn_in (vs := [v]) (fun _ _ => Tryd.call39 _ _) (creadPoint_fn l (by omega) fun x hx => Nat.le_trans (hs x hx) (by decide)) hg ⟨hv, trivial⟩).mono ?_)
  rintro e w' ⟨v, rfl, hv, hb⟩
  rw [rdPt_3]
  cases h : rd3 wholeV l with
  | none =>
    rw [h] at hv
    have hv' : DVR w' (fun _ => False) (retPo none) v := hv
    rw [dv_rel (v := .tuple #[.agg #[.int .i64 0, .int .i64 0, .int .i64 0], .bool false]) rfl] at hv'
    exact ⟨.inr ⟨rfl, by rw [hv'.1]⟩, hb⟩
  | some p =>
    rw [h] at hv
    have hv' : DVR w' (fun _ => False) (retPo (some p)) v := hv
    rw [dv_rel (v := .tuple #[.agg #[.int .i64 p.1, .int .i64 p.2.1, .int .i64 p.2.2], .bool true]) rfl] at hv'
    obtain ⟨rfl, h1, h2⟩ := hv'
    exact ⟨.inl ⟨_, rfl, wd_i64.1 h1.1, wd_i64.1 h1.2.1, wd_i64.1 h1.2.2.1, rfl⟩, hb⟩
theorem own_ne {W : World} {base : Nat} {e : TypeId} {size k b : Nat} {v : Value} {xs : List Value} (h : W.ownsRow base e size v k xs) (hb : b < base) : some b ≠ v.ownBlock := by
  rcases h.2 with ⟨rfl, _⟩ | ⟨g, cap, cur, rfl, hg, hgb, _⟩
  · simp [Value.ownBlock]
  · intro e'
    have : b = g := by simpa [Value.ownBlock] using e'
    omega
theorem own_cells {W : World} {base : Nat} {e : TypeId} {size k : Nat} {v : Value} {xs : List Value} (h : W.ownsRow base e size v k xs) {j : Nat} {o : Obj} (ej : v.ownBlock = some j) (hj : W.heap[j]? = some o) : o.isCells = true ∧ base ≤ j := by
  rcases h.2 with ⟨rfl, _⟩ | ⟨g, cap, cur, rfl, hg, hgb, _⟩
  · simp [Value.ownBlock] at ej
  · obtain rfl : g = j := by simpa [Value.ownBlock] using ej
    rw [hgb] at hj; cases hj; exact ⟨rfl, hg⟩
theorem own_base {W : World} {base : Nat} {e : TypeId} {size k : Nat} {v : Value} {xs : List Value} (h : W.ownsRow base e size v k xs) {j : Nat} (ej : v.ownBlock = some j) : base ≤ j := by
  rcases h.2 with ⟨rfl, _⟩ | ⟨g, cap, cur, rfl, hg, hgb, _⟩
  · simp [Value.ownBlock] at ej
  · obtain rfl : g = j := by simpa [Value.ownBlock] using ej
    exact hg
theorem cM3 (W3 : World) (p : Pt) : ∀ (j : Nat) (u : Value), ([.int .i64 p.id, .int .i64 p.a, .int .i64 p.b] : List Value)[j]? = some u → ((W3.alloc (.cells #[.int .i64 p.id, .int .i64 p.a, .int .i64 p.b] 46)).alloc (.cells #[.int .i64 p.id, .int .i64 p.a, .int .i64 p.b] 46)).cell? ((⟨W3.heap.size + 1, 0, none⟩ : Addr).add j) = some u := fun j u hj => by
  have hn := World.alloc_heap_new (W3.alloc (.cells #[.int .i64 p.id, .int .i64 p.a, .int .i64 p.b] 46)) (.cells #[.int .i64 p.id, .int .i64 p.a, .int .i64 p.b] 46)
  rw [World.size_alloc] at hn
  rw [Sx.add_plain, Nat.zero_add]
  simp only [World.cell?, hn]
  simpa using hj
theorem results_parse {n0 : Nat} {W : World} {x y z e : Value} (tmps : Array Value) (h2 : tmps[2]? = some (.pointer (some ⟨n0, 0, none⟩))) (h3 : tmps[3]? = some (.pointer (some ⟨n0 + 1, 0, none⟩))) (h6 : W.heap[n0]? = some (.cells #[x, y, z] 28 (0, 0))) (h7 : Boxed W (n0 + 1) 31 e) : (results Tryd.f12 tmps).run Tryd.prog W = .ok (.tuple #[.agg #[x, y, z], e]) W := by
  obtain ⟨a0, a1, a2, _⟩ := cells3 h6
  have e0 := h7.cell
  have hr : Tryd.f12.results = #[.cell 2 28, .cell 3 31] := rfl
  simp only [results, hr]
  simp [h2, h3]
  go_simp
theorem parse_end {n : Nat} {s : Str} {w W : World} {M : Nat → Prop} {D : Nat} {tmps : Array Value} {x y z e : Value} (h2 : tmps[2]? = some (.pointer (some ⟨w.heap.size, 0, none⟩))) (h3 : tmps[3]? = some (.pointer (some ⟨w.heap.size + 1, 0, none⟩)))
    (h6 : W.heap[w.heap.size]? = some (.cells #[x, y, z] 28 (0, 0))) (h7 : Boxed W (w.heap.size + 1) 31 e) (h8 : w.heap.size + 4 ≤ W.heap.size) (h9 : Below w.heap.size w W) (hD : w.heap.size ≤ D) (hK : W.heap[D]? = some (.deferred (some [])))
    (hr : DVR (W.putObj D (.deferred none)) M (retMd (parseV s)) (.tuple #[.agg #[x, y, z], e])) :
    bodyPostM Fence.wide n Tryd.prog Tryd.f12 (fun e w' => ∃ v, e = Ending.returned v ∧ DVR w' M (retMd (parseV s)) v ∧ Below w.heap.size w w') Exit.ret { tmps := tmps, defers := [{ target := Target.collected D, args := #[] }] } W := by
  refine ⟨by simp, .inl ⟨_, _, rfl, run_takeDeferred hK, ?_⟩⟩
  have ne : ∀ {b : Nat} {cs : Array Value} {T : TypeId} {fr : Nat × Nat}, W.heap[b]? = some (.cells cs T fr) → (W.putObj D (.deferred none)).heap[b]? = some (.cells cs T fr) := fun h => (World.putObj_heap_other fun e => by subst e; rw [hK] at h; cases h).trans h
  refine ⟨_, results_parse tmps h2 h3 (ne h6) (ne h7), _, rfl, hr, ?_⟩
  exact h9.grown (grownBy_putObj' W D _) (by omega) (fun k e => by cases e; omega)
theorem str_neq (t : Nat) (a b : Str) (w : World) : (binOp .neq t (bstr a) (bstr b)).run Tryd.prog w = .ok (.bool (decide (¬ a = b))) w := by
  rw [binOp_string_neq, str_toList, str_toList]
  simp [go_sem]
  by_cases h : a = b <;> simp [h]
attribute [local go_sem] str_eql str_neq
set_option maxRecDepth 100000 in
set_option maxHeartbeats 4000000 in
theorem parse_in {n : Nat} (s : Str) (hs : s.length ≤ 2500) (w : World) (hg0 : Gd w) (M : Nat → Prop) (hM : ∀ b, M b → b < w.heap.size) (hn : 6 ≤ n) :
    CallsIn Fence.wide n Tryd.prog 12 #[bstr s] w fun e w' => ∃ v, e = .returned v ∧ DVR w' M (retMd (parseV s)) v ∧ Below w.heap.size w w' := by
  have hn1 : 1 ≤ n := by omega
  have hn2 : 1 ≤ n - 1 := by omega
  have hn3 : 1 ≤ n - 1 - 1 := by omega
  have hf1 : Fence.wide.fn 36 := trivial
  have hf2 : Fence.wide.fn 38 := trivial
  have hf3 : Fence.wide.fn 37 := trivial
  have hf4 : Fence.wide.fn 30 := trivial
  have hf5 : Fence.wide.fn 39 := trivial
  have hf6 : Fence.wide.fn 10 := trivial
  have hlen : ¬ ((s.length : Int) > 2500) := by omega
  refine callsIn_of_wp_marks Tryd.func12 rfl trivial ?_ rfl
  simp only [Tryd.ntmps12, List.size_toArray, List.length_cons, List.length_nil, Nat.reduceAdd, Nat.reduceSub, Array.replicate_succ, Array.replicate_zero, List.push_toArray, List.append_toArray, List.nil_append, List.cons_append]
  gi_wp2_with (gi_at_call 36; (with_reducible refine CallsIn.mono (sLines_in s _) ?_); rintro e w1 ⟨rfl, rfl⟩)
  obtain ⟨W0, hW0⟩ : ∃ W0, W0 = (((w.alloc (.cells #[.int .i64 0, .int .i64 0, .slice none 0 0] 28)).alloc (.cells #[.int .i64 0] 31)).alloc (.cells #[.int .i64 0, .int .i64 0, .slice none 0 0] 28)).alloc (.cells #[bstr s] 9) := ⟨_, rfl⟩
  have hB0 : Below w.heap.size w W0 := by rw [hW0]; exact ((((Below.refl _ w).alloc (Nat.le_refl _) _).alloc (by simp) _).alloc (by simp <;> omega) _).alloc (by simp <;> omega) _
  have hs0 : W0.heap.size = w.heap.size + 4 := by rw [hW0]; simp
  have k0 : W0.heap[w.heap.size]? = some (.cells #[.int .i64 0, .int .i64 0, .slice none 0 0] 28 (0, 0)) := by
    rw [hW0, Below.heap_alloc _ _ _ (by simp <;> omega), Below.heap_alloc _ _ _ (by simp <;> omega), Below.heap_alloc _ _ _ (by simp)]
    exact World.alloc_heap_new w _
  have k1 : W0.heap[w.heap.size + 1]? = some (.cells #[.int .i64 0] 31 (0, 0)) := by
    rw [hW0, Below.heap_alloc _ _ _ (by simp <;> omega), Below.heap_alloc _ _ _ (by simp)]
    have := World.alloc_heap_new (w.alloc (.cells #[.int .i64 0, .int .i64 0, .slice none 0 0] 28)) (.cells #[.int .i64 0] 31)
    rwa [World.size_alloc] at this
  have k2 : W0.heap[w.heap.size + 2]? = some (.cells #[.int .i64 0, .int .i64 0, .slice none 0 0] 28 (0, 0)) := by
    rw [hW0, Below.heap_alloc _ _ _ (by simp)]
    have := World.alloc_heap_new ((w.alloc (.cells #[.int .i64 0, .int .i64 0, .slice none 0 0] 28)).alloc (.cells #[.int .i64 0] 31)) (.cells #[.int .i64 0, .int .i64 0, .slice none 0 0] 28)
    rwa [World.size_alloc, World.size_alloc] at this
  have k3 : Boxed W0 (w.heap.size + 3) 9 (bstr s) := by
    rw [hW0]
    have := World.alloc_heap_new (((w.alloc (.cells #[.int .i64 0, .int .i64 0, .slice none 0 0] 28)).alloc (.cells #[.int .i64 0] 31)).alloc (.cells #[.int .i64 0, .int .i64 0, .slice none 0 0] 28)) (.cells #[bstr s] 9)
    rwa [World.size_alloc, World.size_alloc, World.size_alloc] at this
  rw [← hW0]
  refine wpIn_rangeEnds (α := Str) (encs := fun x => #[bstr x]) (bs := fun k => k = w.heap.size + 3) (xs := lns s) hn1 (gf := 62) (lb := #[.pointer (some ⟨w.heap.size + 3, 0, none⟩)]) rfl (fun _ _ => Tryd.call62 _ _)
    (lines_ends s (w.heap.size + 3) (n - 1) W0 k3 (by omega) hn2) (fun b hb => by rw [hb, hs0]; omega) (fun _ => rfl) (PrsI w) (PrsX s w)
    (fun pre A B row hi hg hr => prsI_keep hi hg fun r e => by rw [hs0] at hr; exact hr r e) (fun A B row hi hg hr => prsX_keep hi hg fun r e => by rw [hs0] at hr; exact hr r e)
    ⟨⟨mdZ, _, rfl, by unfold MdIn in64; simp, Nat.le_refl _, k2, rfl, .inl ⟨rfl, rfl⟩⟩, k0, k1, by omega, hB0⟩
    (fun x => { tmps := #[bstr s, undef, .pointer (some ⟨w.heap.size, 0, none⟩), .pointer (some ⟨w.heap.size + 1, 0, none⟩), .pointer (some ⟨w.heap.size + 2, 0, none⟩), bstr x, undef, undef, undef, undef, undef, undef, undef, bstr s, .int .i64 (s.length : Int), .bool false, undef, bstr s, .func (.func 62) #[] #[.pointer (some ⟨w.heap.size + 3, 0, none⟩)], bstr x, undef, undef, undef, undef, undef, undef, undef, undef, undef, undef, undef, undef, undef, undef, undef, undef, undef, undef, undef, undef, undef, undef, undef, undef, undef, undef, undef, undef, undef, undef, undef, undef, undef, undef, undef, undef, undef, undef, undef, undef, undef, undef, undef, undef, undef, undef, undef, undef, undef, undef, undef, undef, undef, undef, undef], defers := [] }) ?_ ?_ ?_ ?_
  · rintro lp x W K hK
    rw [zip1]
    show Code.wpIn _ _ _ _ _ { tmps := #[bstr s, undef, .pointer (some ⟨w.heap.size, 0, none⟩), .pointer (some ⟨w.heap.size + 1, 0, none⟩), .pointer (some ⟨w.heap.size + 2, 0, none⟩), undef, undef, undef, undef, undef, undef, undef, undef, bstr s, .int .i64 (s.length : Int), .bool false, undef, bstr s, .func (.func 62) #[] #[.pointer (some ⟨w.heap.size + 3, 0, none⟩)], bstr x, undef, undef, undef, undef, undef, undef, undef, undef, undef, undef, undef, undef, undef, undef, undef, undef, undef, undef, undef, undef, undef, undef, undef, undef, undef, undef, undef, undef, undef, undef, undef, undef, undef, undef, undef, undef, undef, undef, undef, undef, undef, undef, undef, undef, undef, undef, undef, undef, undef, undef, undef, undef, undef, undef, undef], defers := [] } W
    gi_wp2_with (rw [Oper.semAt_eq _ _ _ (fun c h => by cases h)]; go_simp; try go_bits)
    exact hK
  · rintro lp pre x post W hpost hI
    obtain ⟨⟨m, v, h1, h2, h3, h4, h5⟩, h6, h7, h8, h9⟩ := id hI
    obtain ⟨hx1, hx2⟩ := lns_bytes hpost
    have ht := trimN_le x
    have hl1 := spl_len 32 (trimN x)
    have hl2 := spl_each 32 (trimN x)
    obtain ⟨w0, tl, hL⟩ : ∃ w0 tl, spl 32 (trimN x) = w0 :: tl := by
      cases h : spl 32 (trimN x) with
      | nil => exact absurd h (spl_ne 32 (trimN x))
      | cons a b => exact ⟨a, b, rfl⟩
    have hgW : Gd W := gd_below h9 hg0
    have cT := trim_in (n := n - 1 - 1 - 1) (lp := lp) (x := x) (by omega) hgW
    have cS := fun (W1 : World) (hb : Below W.heap.size W W1) => split_in (n := n - 1 - 1 - 1) (lp := lp) (by omega) hL (gd_below hb hgW)
    have hps : pstep m x = if w0 = wNow ∧ (w0 :: tl).length = 2 then (if (readV (tl.headD [])).2 = 0 then some ⟨(readV (tl.headD [])).1.1, (readV (tl.headD [])).1.2, m.l⟩ else none) else match rdPt wholeV tl with | some p => some ⟨m.n, m.d, m.l ++ [p]⟩ | none => none := by
      unfold pstep
      rw [hL]
      cases tl <;> rfl
    rw [hL] at hl1 hl2
    rw [List.length_cons] at hl1
    obtain ⟨a0, a1, a2, b0, b1, b2⟩ := cells3 h6
    obtain ⟨d0, d1, d2, f0, f1, f2⟩ := cells3 h4
    have e0 := h7.cell
    have e1 := h7.frozen
    have lw : w.heap.size + 2 < W.heap.size := by omega
    generalize trimN x = t at *
    by_cases hc : w0 = wNow ∧ tl.length = 1
    · obtain ⟨hw0, htl⟩ := hc
      · obtain ⟨y, rfl⟩ : ∃ y, tl = [y] := by
          match tl, htl with
          | [y], _ => exact ⟨y, rfl⟩
        subst hw0
        have hy : y.length ≤ 2500 := by have := hl2 y (by simp); omega
        have cN := fun (W1 : World) (hb : Below W.heap.size W W1) => number_in (n := n - 1 - 1 - 1) (lp := lp) hy (gd_below hb hgW)
        rw [if_pos ⟨rfl, rfl⟩] at hps
        replace hps : pstep m x = if (readV y).2 = 0 then some ⟨(readV y).1.1, (readV y).1.2, m.l⟩ else none := hps
        simp only [List.length_cons, List.length_nil, Nat.zero_add, Nat.reduceAdd] at cS
        have hwn : decide (wNow = [110, 111, 119]) = true := by decide
        clear hL hl1 hl2
        obtain ⟨qn, hqn⟩ : ∃ n, n = (readV y).1.1 := ⟨_, rfl⟩
        obtain ⟨qd, hqd⟩ : ∃ n, n = (readV y).1.2 := ⟨_, rfl⟩
        obtain ⟨qe, hqe⟩ : ∃ n, n = (readV y).2 := ⟨_, rfl⟩
        rw [← hqn, ← hqd, ← hqe] at hps
        simp only [← hqn, ← hqd, ← hqe] at cN
        clear hqn hqd hqe
        have kp : ∀ {W' : World}, Below W.heap.size W W' → ∀ b o, b ≤ w.heap.size + 2 → W'.cell? ⟨b, o, none⟩ = W.cell? ⟨b, o, none⟩ ∧ W'.frozen? ⟨b, o, none⟩ = W.frozen? ⟨b, o, none⟩ := fun hb b o h => ⟨World.cell?_of_block (hb.block b (by omega)), World.frozen?_of_block (hb.block b (by omega))⟩
        by_cases hq : qe = 0
        · rw [if_pos hq] at hps
          subst hq
          gi_wp2_with (first
            | (gi_at_call 38; (with_reducible refine CallsIn.mono cT ?_); rintro e W1 ⟨rfl, B1⟩)
            | (gi_at_call 37; (with_reducible refine CallsIn.mono (cS _ B1) ?_); rintro e W2 ⟨bL, oL, cL, rfl, hcL, hbL, hcell, hrL, B2⟩; have z0 := hcell 0 (by simp); have z1 := hcell 1 (by simp); simp only [Nat.add_zero, List.getElem_cons_zero, List.getElem_cons_succ] at z0 z1; have B12 := B1.trans (B2.mono B1.size))
            | (gi_at_call 30; (with_reducible refine CallsIn.mono (cN _ B12) ?_); rintro e W3 ⟨rfl, i1, i2, B3⟩; have B13 := B12.trans (B3.mono B12.size); have B14 : Below W.heap.size W (W3.alloc (.cells #[.int .i64 qn, .int .i64 qd] 23)) := B13.alloc B13.size _; have g0 := (kp B14 (w.heap.size + 2) 0 (by omega)).1.trans d0; have g1 := (kp B14 (w.heap.size + 2) 1 (by omega)).1.trans d1; have g3 := (kp B14 (w.heap.size + 2) 0 (by omega)).2.trans f0; have g4 := (kp B14 (w.heap.size + 2) 1 (by omega)).2.trans f1)
            | (rw [Oper.semAt_eq _ _ _ (fun c h => by cases h)]; go_simp; try go_bits))
          refine ⟨((ko_below B14).trans (KeepsOthers.setCell _ _ _)).trans (KeepsOthers.setCell _ _ _), ?_, ⟨⟨qn, qd, m.l⟩, v, ?_, ⟨i1, i2, h2.2.2⟩, ?_, ?_, ?_⟩, ?_, ?_, ?_, ?_⟩
          · rintro b rfl
            exact (setCell_other (by show _ ≠ w.heap.size + 2; omega)).trans ((setCell_other (by show _ ≠ w.heap.size + 2; omega)).trans (B14.block _ (by omega)))
          · rw [prsL_one pre x mdZ m h1]; exact hps
          · simp only [List.length_append]; omega
          · exact (set3 _ (set3 _ ((B14.block _ (by omega)).trans h4)).1).2.1
          · exact owns_set (owns_set (owns_below h5 B14) _ _ (by show w.heap.size + 2 < _; omega)) _ _ (by show w.heap.size + 2 < _; omega)
          · exact (setCell_other (by show _ ≠ w.heap.size + 2; omega)).trans ((setCell_other (by show _ ≠ w.heap.size + 2; omega)).trans ((B14.block _ (by omega)).trans h6))
          · exact (setCell_other (by show _ ≠ w.heap.size + 2; omega)).trans ((setCell_other (by show _ ≠ w.heap.size + 2; omega)).trans ((B14.block _ (by omega)).trans h7))
          · exact Nat.le_trans h8 (Nat.le_trans B14.size (Nat.le_trans (KeepsOthers.setCell _ _ _).size (KeepsOthers.setCell _ _ _).size))
          · exact ((h9.trans (B14.mono h9.size)).setCell (by show _ ≤ w.heap.size + 2; omega) _).setCell (by show _ ≤ w.heap.size + 2; omega) _
        · rw [if_neg hq] at hps
          gi_wp2_with (first
            | (gi_at_call 38; (with_reducible refine CallsIn.mono cT ?_); rintro e W1 ⟨rfl, B1⟩)
            | (gi_at_call 37; (with_reducible refine CallsIn.mono (cS _ B1) ?_); rintro e W2 ⟨bL, oL, cL, rfl, hcL, hbL, hcell, hrL, B2⟩; have z0 := hcell 0 (by simp); have z1 := hcell 1 (by simp); simp only [Nat.add_zero, List.getElem_cons_zero, List.getElem_cons_succ] at z0 z1; have B12 := B1.trans (B2.mono B1.size))
            | (gi_at_call 30; (with_reducible refine CallsIn.mono (cN _ B12) ?_); rintro e W3 ⟨rfl, i1, i2, B3⟩; have B13 := B12.trans (B3.mono B12.size); have B14 : Below W.heap.size W (W3.alloc (.cells #[.int .i64 qn, .int .i64 qd] 23)) := B13.alloc B13.size _; have g0 := (kp B14 w.heap.size 0 (by omega)).1.trans a0; have g1 := (kp B14 w.heap.size 1 (by omega)).1.trans a1; have g2 := (kp B14 w.heap.size 2 (by omega)).1.trans a2; have g3 := (kp B14 w.heap.size 0 (by omega)).2.trans b0; have g4 := (kp B14 w.heap.size 1 (by omega)).2.trans b1; have g5 := (kp B14 w.heap.size 2 (by omega)).2.trans b2; have g6 := (kp B14 (w.heap.size + 1) 0 (by omega)).1.trans e0; have g7 := (kp B14 (w.heap.size + 1) 0 (by omega)).2.trans e1)
            | (rw [Oper.semAt_eq _ _ _ (fun c h => by cases h)]; go_simp; try go_bits))
          have hst : prsL mdZ (lns s) = none := by rw [← hpost]; exact prsL_stop pre x post mdZ m h1 hps
          exact ⟨(ko_below B14).trans (ko_stop _ _), prsX_stop hst ((B14.block _ (by omega)).trans h6) ((B14.block _ (by omega)).trans h7) (Nat.le_trans h8 B14.size) (h9.trans (B14.mono h9.size))⟩
    · have hD : (w0 = [110, 111, 119] ∧ ((tl.length : Int) + 1 == 2) = false) ∨ ¬ w0 = [110, 111, 119] := by
        by_cases e : w0 = [110, 111, 119]
        · exact .inl ⟨e, beq_eq_false_iff_ne.2 fun h => hc ⟨e, by omega⟩⟩
        · exact .inr e
      rw [if_neg (fun h => hc ⟨h.1, by simpa using h.2⟩)] at hps
      have kp : ∀ {W' : World}, Below W.heap.size W W' → ∀ b o, b ≤ w.heap.size + 2 → W'.cell? ⟨b, o, none⟩ = W.cell? ⟨b, o, none⟩ ∧ W'.frozen? ⟨b, o, none⟩ = W.frozen? ⟨b, o, none⟩ := fun hb b o h => ⟨World.cell?_of_block (hb.block b (by omega)), World.frozen?_of_block (hb.block b (by omega))⟩
      have cP := fun (W1 : World) (hb : Below W.heap.size W W1) (v : Value) (hv : Rep W1 (fun _ => False) (strs tl) v) => point_in (n := n - 1 - 1 - 1) (lp := lp) (l := tl) (by omega) (fun z hz => by have := hl2 z (List.mem_cons_of_mem _ hz); omega) (gd_below hb hgW) hv
      clear hc
      cases hp : rdPt wholeV tl with
      | none =>
        rw [hp] at hps
        have cQ : ∀ (W1 : World) (hb : Below W.heap.size W W1) (v : Value) (hv : Rep W1 (fun _ => False) (strs tl) v), CallsIn (Fence.wide.inRound lp) (n - 1 - 1 - 1) Tryd.prog 39 #[v] W1 fun e w' => e = .returned (.tuple #[.agg #[.int .i64 0, .int .i64 0, .int .i64 0], .bool false]) ∧ Below W1.heap.size W1 w' := fun W1 hb v hv => (cP W1 hb v hv).mono fun e w' ⟨h, k⟩ => by
          rcases h with ⟨p, h, _⟩ | ⟨_, h⟩
          · rw [hp] at h; cases h
          · exact ⟨h, k⟩
        clear cP
        have hst : prsL mdZ (lns s) = none := by rw [← hpost]; exact prsL_stop pre x post mdZ m h1 hps
        rcases hD with ⟨rfl, hL2⟩ | hwn
        all_goals
          gi_wp2_with (first
            | (gi_at_call 38; (with_reducible refine CallsIn.mono cT ?_); rintro e W1 ⟨rfl, B1⟩)
            | (gi_at_call 37; (with_reducible refine CallsIn.mono (cS _ B1) ?_); rintro e W2 ⟨bL, oL, cL, rfl, hcL, hbL, hcell, hrL, B2⟩; have z0 := hcell 0 (by simp); simp only [Nat.add_zero, List.getElem_cons_zero, List.getElem_cons_succ] at z0; have B12 := B1.trans (B2.mono B1.size); clear hcell; obtain ⟨r1, r2⟩ := rep_tail hrL hcL)
            | (gi_at_call 39; (first | (with_reducible refine CallsIn.mono (cQ _ B12 _ (r1 (by assumption))) ?_) | (with_reducible refine CallsIn.mono (cQ _ B12 _ (r2 (by assumption))) ?_)); rintro e W3 ⟨rfl, B3⟩; have B13 := B12.trans (B3.mono B12.size); have B14 : Below W.heap.size W (W3.alloc (.cells #[.int .i64 0, .int .i64 0, .int .i64 0] 46)) := B13.alloc B13.size _; have g0 := (kp B14 w.heap.size 0 (by omega)).1.trans a0; have g1 := (kp B14 w.heap.size 1 (by omega)).1.trans a1; have g2 := (kp B14 w.heap.size 2 (by omega)).1.trans a2; have g3 := (kp B14 w.heap.size 0 (by omega)).2.trans b0; have g4 := (kp B14 w.heap.size 1 (by omega)).2.trans b1; have g5 := (kp B14 w.heap.size 2 (by omega)).2.trans b2; have g6 := (kp B14 (w.heap.size + 1) 0 (by omega)).1.trans e0; have g7 := (kp B14 (w.heap.size + 1) 0 (by omega)).2.trans e1)
            | (rw [Oper.semAt_eq _ _ _ (fun c h => by cases h)]; go_simp; try go_bits))
        all_goals exact ⟨(ko_below B14).trans (ko_stop _ _), prsX_stop hst ((B14.block _ (by omega)).trans h6) ((B14.block _ (by omega)).trans h7) (Nat.le_trans h8 B14.size) (h9.trans (B14.mono h9.size))⟩
      | some p =>
        rw [hp] at hps
        replace hps : pstep m x = some ⟨m.n, m.d, m.l ++ [p]⟩ := hps
        have cQ : ∀ (W1 : World) (hb : Below W.heap.size W W1) (v : Value) (hv : Rep W1 (fun _ => False) (strs tl) v), CallsIn (Fence.wide.inRound lp) (n - 1 - 1 - 1) Tryd.prog 39 #[v] W1 fun e w' => e = .returned (.tuple #[.agg #[.int .i64 p.id, .int .i64 p.a, .int .i64 p.b], .bool true]) ∧ (in64 p.id ∧ in64 p.a ∧ in64 p.b) ∧ Below W1.heap.size W1 w' := fun W1 hb v hv => (cP W1 hb v hv).mono fun e w' ⟨h, k⟩ => by
          rcases h with ⟨q, h, i1, i2, i3, h'⟩ | ⟨h, _⟩
          · rw [hp] at h
            injection h with h
            subst h
            exact ⟨h', ⟨i1, i2, i3⟩, k⟩
          · rw [hp] at h; cases h
        clear cP
        obtain ⟨te, he, hsz, _, _, ti, tz, hi0, hsz0, hz0, hzs, _, hby⟩ := (ty_ok 24 (.sl 3 true [.v (.int .i64 0), .v (.int .i64 0), .v (.int .i64 0)]) rfl).2.2.2
        have hee : te = 46 := by
          have := he.symm.trans Tryd.underlying24
          injection this with this; injection this
        subst hee
        have o3 : ∀ u ∈ ([.int .i64 p.id, .int .i64 p.a, .int .i64 p.b] : List Value), u.oneCell' = true := by simp [Value.oneCell']
        have q1 : m.l.length + 1 ≤ maxLen := by unfold maxLen; omega
        have q2 : (m.l.length + 1) * ti.bytes ≤ 140737488355328 := by
          have : (m.l.length + 1) * ti.bytes ≤ 10001 * 65536 := Nat.mul_le_mul (by omega) hby
          omega
        rcases hD with ⟨rfl, hL2⟩ | hwn
        all_goals
          gi_wp2_with (first
            | (gi_at_call 38; (with_reducible refine CallsIn.mono cT ?_); rintro e W1 ⟨rfl, B1⟩)
            | (gi_at_call 37; (with_reducible refine CallsIn.mono (cS _ B1) ?_); rintro e W2 ⟨bL, oL, cL, rfl, hcL, hbL, hcell, hrL, B2⟩; have z0 := hcell 0 (by simp); simp only [Nat.add_zero, List.getElem_cons_zero, List.getElem_cons_succ] at z0; have B12 := B1.trans (B2.mono B1.size); clear hcell; obtain ⟨r1, r2⟩ := rep_tail hrL hcL)
            | (gi_at_call 39; (first | (with_reducible refine CallsIn.mono (cQ _ B12 _ (r1 (by assumption))) ?_) | (with_reducible refine CallsIn.mono (cQ _ B12 _ (r2 (by assumption))) ?_)); rintro e W3 ⟨rfl, i1, B3⟩; have B13 := B12.trans (B3.mono B12.size); have B14 : Below W.heap.size W (W3.alloc (.cells #[.int .i64 p.id, .int .i64 p.a, .int .i64 p.b] 46)) := B13.alloc B13.size _; have B15 := B14.alloc B14.size (.cells #[.int .i64 p.id, .int .i64 p.a, .int .i64 p.b] 46); have sz4 : (W3.alloc (.cells #[.int .i64 p.id, .int .i64 p.a, .int .i64 p.b] 46)).heap.size = W3.heap.size + 1 := World.size_alloc _ _; have sB := B15.size; have hrow := owns_below h5 B15; have cM := cM3 W3 p; have g2 := (kp B14 (w.heap.size + 2) 2 (by omega)).1.trans d2; have g5 := (kp B14 (w.heap.size + 2) 2 (by omega)).2.trans f2)
            | (gi_at_builtin; refine wpListIn_append_own _ rfl _ _ 24 rfl (w.heap.size + 4) 46 ti tz 3 ti.bytes Tryd.underlying24 hi0 hz0 hsz0 rfl hzs (by decide) _ _ _ rfl hrow ⟨W3.heap.size + 1, 0, none⟩ 1 1 [.int .i64 p.id, .int .i64 p.a, .int .i64 p.b] rfl rfl cM o3 q1 q2 (Nat.le_trans h8 sB) ?_; intro v' W5 hown' hg3 hnil3; obtain ⟨g', cap', hv'⟩ := ownsRow_succ hown'; subst hv'; have c3 := (World.cell?_of_block (hg3.block (w.heap.size + 2) (by omega) (own_ne h5 (by omega)))).trans ((kp B15 (w.heap.size + 2) 2 (by omega)).1.trans d2); have c4 := (World.frozen?_of_block (hg3.block (w.heap.size + 2) (by omega) (own_ne h5 (by omega)))).trans ((kp B15 (w.heap.size + 2) 2 (by omega)).2.trans f2))
            | (rw [Oper.semAt_eq _ _ _ (fun c h => by cases h)]; go_simp; try go_bits))
        all_goals
          refine ⟨((ko_below B15).trans (KeepsOthers.of_grownBy hg3 fun j o ej hj => (own_cells hrow ej hj).1)).trans (KeepsOthers.setCell _ _ _), ?_, ⟨⟨m.n, m.d, m.l ++ [p]⟩, .slice (some ⟨g', 0, none⟩) (m.l.length + 1) cap', ?_, ⟨h2.1, h2.2.1, ?_⟩, ?_, ?_, ?_⟩, ?_, ?_, ?_, ?_⟩
          · rintro b rfl
            exact (setCell_other (by show _ ≠ w.heap.size + 2; omega)).trans ((hg3.block _ (by omega) (own_ne h5 (by omega))).trans (B15.block _ (by omega)))
          · rw [prsL_one pre x mdZ m h1]; exact hps
          · intro q hq
            rcases List.mem_append.1 hq with hq | hq
            · exact h2.2.2 q hq
            · obtain rfl := List.mem_singleton.1 hq; exact i1
          · simp only [List.length_append, List.length_cons, List.length_nil]; omega
          · exact (set3 _ ((hg3.block _ (by omega) (own_ne h5 (by omega))).trans ((B15.block _ (by omega)).trans h4))).2.2
          · refine owns_set ?_ _ _ (by show w.heap.size + 2 < _; omega)
            simpa [Pt.vals] using hown'
          · exact setCell_o (by omega) ((hg3.block _ (by omega) (own_ne h5 (by omega))).trans ((B15.block _ (by omega)).trans h6))
          · exact setCell_o (by omega) ((hg3.block _ (by omega) (own_ne h5 (by omega))).trans ((B15.block _ (by omega)).trans h7))
          · exact Nat.le_trans h8 (Nat.le_trans sB (Nat.le_trans hg3.size (KeepsOthers.setCell _ _ _).size))
          · exact (below_row (h9.trans (B15.mono h9.size)) (Nat.le_trans h9.size sB) hg3 fun r e => Nat.le_trans (by omega) (own_base h5 e)).setCell (by show _ ≤ w.heap.size + 2; omega) _
  · intro D W hD hI hK
    obtain ⟨⟨m, v, h1, h2, h3, h4, h5⟩, h6, h7, h8, h9⟩ := hI
    obtain ⟨a0, a1, a2, b0, b1, b2⟩ := cells3 h6
    obtain ⟨d0, d1, d2, f0, f1, f2⟩ := cells3 h4
    have e0 := h7.cell
    have e1 := h7.frozen
    have hgW : Gd W := gd_below h9 hg0
    have hpv : parseV s = backM s (some m) := by unfold parseV prsV; rw [if_neg (by omega), h1]
    have hT : CallsIn Fence.wide (n - 1) Tryd.prog 10 #[.agg #[.int .i64 m.n, .int .i64 m.d, v]] W fun e w' => e = .returned (.tuple #[bstr (textSV m).1, .int .i64 (textSV m).2]) ∧ Below W.heap.size W w' :=
      (fn_in' (vs := [.agg #[.int .i64 m.n, .int .i64 m.d, v]]) (fun _ _ => Tryd.call10 _ _) rfl (cText_fn m) hgW ⟨⟨[.int .i64 m.n, .int .i64 m.d, v], rfl, .v _ rfl h2.1, .v _ rfl h2.2.1, rep_owned h5 h2.2.2 (fun _ h => h.elim), trivial⟩, trivial⟩).mono fun e w' ⟨h1, _, h2⟩ => ⟨h1, h2⟩
    have kp : ∀ {W' : World}, Below W.heap.size W W' → ∀ b o, b ≤ w.heap.size + 2 → W'.cell? ⟨b, o, none⟩ = W.cell? ⟨b, o, none⟩ ∧ W'.frozen? ⟨b, o, none⟩ = W.frozen? ⟨b, o, none⟩ := fun hb b o h => ⟨World.cell?_of_block (hb.block b (by omega)), World.frozen?_of_block (hb.block b (by omega))⟩
    obtain ⟨va, vk, vc, rfl⟩ : ∃ a k c, v = .slice a k c := by
      rcases h5.2 with ⟨rfl, _⟩ | ⟨g, cap, cur, rfl, _⟩
      · exact ⟨_, _, _, rfl⟩
      · exact ⟨_, _, _, rfl⟩
    rcases bm_cases m s with ⟨c1, c2, c3⟩ | ⟨c1, c2, c3⟩ | ⟨c1, c3⟩
    · have ht : textSV m = (s, 0) := by unfold textSV; rw [if_pos c1, c2]
      rw [ht] at hT
      simp only at hT
      gi_wp2_with (gi_at_call 10; (with_reducible refine CallsIn.mono hT ?_); rintro e W5 ⟨rfl, B5⟩; have g0 := (kp B5 w.heap.size 0 (by omega)).1.trans a0; have g1 := (kp B5 w.heap.size 1 (by omega)).1.trans a1; have g2 := (kp B5 w.heap.size 2 (by omega)).1.trans a2; have g3 := (kp B5 w.heap.size 0 (by omega)).2.trans b0; have g4 := (kp B5 w.heap.size 1 (by omega)).2.trans b1; have g5 := (kp B5 w.heap.size 2 (by omega)).2.trans b2; have g6 := (kp B5 (w.heap.size + 1) 0 (by omega)).1.trans e0; have g7 := (kp B5 (w.heap.size + 1) 0 (by omega)).2.trans e1; have k0 := (kp B5 (w.heap.size + 2) 0 (by omega)).1.trans d0; have k1 := (kp B5 (w.heap.size + 2) 1 (by omega)).1.trans d1; have k2 := (kp B5 (w.heap.size + 2) 2 (by omega)).1.trans d2)
      have X := prs_ok (.int .i64 m.n) (.int .i64 m.d) (.slice va vk vc) ((B5.block _ (by omega)).trans h6) ((B5.block _ (by omega)).trans h7) (Nat.le_trans h8 B5.size) (h9.trans (B5.mono h9.size))
      have X5 : (okW w.heap.size W5 (.int .i64 m.n) (.int .i64 m.d) (.slice va vk vc)).ownsRow (w.heap.size + 4) 46 3 (.slice va vk vc) m.l.length (m.l.flatMap Pt.vals) :=
        owns_set (owns_set (owns_set (owns_set (owns_below h5 B5) _ _ (by show w.heap.size < _; omega)) _ _ (by show w.heap.size < _; omega)) _ _ (by show w.heap.size < _; omega)) _ _ (by show w.heap.size + 1 < _; omega)
      obtain ⟨x6, x7, x8, x9⟩ := X
      have xD := (ko_ok w.heap.size W5 (.int .i64 m.n) (.int .i64 m.d) (.slice va vk vc)).same _ _ ((B5.block D (Array.getElem?_eq_some_iff.1 hK).1).trans hK) rfl
      refine parse_end rfl rfl x6 x7 x8 x9 (by omega) xD ?_
      rw [hpv, c3]
      exact ⟨_, rfl, ⟨_, rfl, .v _ rfl h2.1, .v _ rfl h2.2.1, rep_owned (ownsRow_putObj X5 _ xD rfl) h2.2.2 (fun b hb => by have := hM b hb; omega), trivial⟩, .v _ rfl ⟨by show (-9223372036854775808 : Int) ≤ 0; decide, by show (0 : Int) ≤ 9223372036854775807; decide⟩, trivial⟩
    · have ht : textSV m = (textT m, 0) := by unfold textSV; rw [if_pos c1]
      rw [ht] at hT
      simp only at hT
      have hne : (textT m == s) = false := beq_eq_false_iff_ne.2 c2
      gi_wp2_with (gi_at_call 10; (with_reducible refine CallsIn.mono hT ?_); rintro e W5 ⟨rfl, B5⟩; have g0 := (kp B5 w.heap.size 0 (by omega)).1.trans a0; have g1 := (kp B5 w.heap.size 1 (by omega)).1.trans a1; have g2 := (kp B5 w.heap.size 2 (by omega)).1.trans a2; have g3 := (kp B5 w.heap.size 0 (by omega)).2.trans b0; have g4 := (kp B5 w.heap.size 1 (by omega)).2.trans b1; have g5 := (kp B5 w.heap.size 2 (by omega)).2.trans b2; have g6 := (kp B5 (w.heap.size + 1) 0 (by omega)).1.trans e0; have g7 := (kp B5 (w.heap.size + 1) 0 (by omega)).2.trans e1; have k0 := (kp B5 (w.heap.size + 2) 0 (by omega)).1.trans d0; have k1 := (kp B5 (w.heap.size + 2) 1 (by omega)).1.trans d1; have k2 := (kp B5 (w.heap.size + 2) 2 (by omega)).1.trans d2)
      have X := prsX_stop0 (s := s) ((B5.block _ (by omega)).trans h6) ((B5.block _ (by omega)).trans h7) (Nat.le_trans h8 B5.size) (h9.trans (B5.mono h9.size))
      obtain ⟨x6, x7, x8, x9⟩ := X
      refine parse_end rfl rfl x6 x7 x8 x9 (by omega) ((ko_stop _ _).same _ _ ((B5.block D (Array.getElem?_eq_some_iff.1 hK).1).trans hK) rfl) ?_
      rw [hpv, c3]
      exact ⟨_, rfl, ⟨_, rfl, .v _ rfl ⟨by decide, by decide⟩, .v _ rfl ⟨by decide, by decide⟩, .nil 3 none 0 (by decide) (fun _ => rfl), trivial⟩, .v _ rfl ⟨by decide, by decide⟩, trivial⟩
    · have ht : textSV m = ([], 8) := by unfold textSV; rw [if_neg (by omega)]
      rw [ht] at hT
      simp only at hT
      gi_wp2_with (gi_at_call 10; (with_reducible refine CallsIn.mono hT ?_); rintro e W5 ⟨rfl, B5⟩; have g0 := (kp B5 w.heap.size 0 (by omega)).1.trans a0; have g1 := (kp B5 w.heap.size 1 (by omega)).1.trans a1; have g2 := (kp B5 w.heap.size 2 (by omega)).1.trans a2; have g3 := (kp B5 w.heap.size 0 (by omega)).2.trans b0; have g4 := (kp B5 w.heap.size 1 (by omega)).2.trans b1; have g5 := (kp B5 w.heap.size 2 (by omega)).2.trans b2; have g6 := (kp B5 (w.heap.size + 1) 0 (by omega)).1.trans e0; have g7 := (kp B5 (w.heap.size + 1) 0 (by omega)).2.trans e1; have k0 := (kp B5 (w.heap.size + 2) 0 (by omega)).1.trans d0; have k1 := (kp B5 (w.heap.size + 2) 1 (by omega)).1.trans d1; have k2 := (kp B5 (w.heap.size + 2) 2 (by omega)).1.trans d2)
      have X := prsX_stop0 (s := s) ((B5.block _ (by omega)).trans h6) ((B5.block _ (by omega)).trans h7) (Nat.le_trans h8 B5.size) (h9.trans (B5.mono h9.size))
      obtain ⟨x6, x7, x8, x9⟩ := X
      refine parse_end rfl rfl x6 x7 x8 x9 (by omega) ((ko_stop _ _).same _ _ ((B5.block D (Array.getElem?_eq_some_iff.1 hK).1).trans hK) rfl) ?_
      rw [hpv, c3]
      exact ⟨_, rfl, ⟨_, rfl, .v _ rfl ⟨by decide, by decide⟩, .v _ rfl ⟨by decide, by decide⟩, .nil 3 none 0 (by decide) (fun _ => rfl), trivial⟩, .v _ rfl ⟨by decide, by decide⟩, trivial⟩
  · intro D W hD hX hK
    obtain ⟨h1, h6, h7, h8, h9⟩ := hX
    have hpv : parseV s = (mdZ, 12) := by unfold parseV prsV; rw [if_neg (by omega), h1]; rfl
    gi_wp2
    refine parse_end rfl rfl h6 h7 h8 h9 (by omega) hK ?_
    rw [hpv]
    exact ⟨_, rfl, ⟨_, rfl, .v _ rfl ⟨by decide, by decide⟩, .v _ rfl ⟨by decide, by decide⟩, .nil 3 none 0 (by decide) (fun _ => rfl), trivial⟩, .v _ rfl ⟨by decide, by decide⟩, trivial⟩
set_option maxRecDepth 100000 in
theorem parse_big (s : Str) (hs : 2500 < s.length) (hs0 : s.length ≤ 9223372036854775807) : FnOK Tryd.prog 12 [.one (str s)] (retMd (mdZ, 4)) := by
  refine fn_ok (by kernel_rfl) ty_ok Tryd.func12 rfl (fun _ _ => Tryd.call12 _ _) rfl ?_
  intro hw
  clear hw
  repeat' ((conv => whnf); first | (with_reducible first | refine br_t ?_ | refine br_f ?_ | refine za ?_ | refine zg ?_) | refine zsl ?_ | refine zsg ?_ | refine zss ?_ | refine zs1 ?_ | refine zse ?_ | refine zsn ?_ | refine zsc ?_ | (with_reducible first | refine zpa ?_ | refine zqa ?_) | refine zp ?_ | refine zq ?_ | (with_reducible first | refine bc (fun h => ?_) (fun h => ?_) | refine zt ?_ | refine zf ?_ | refine br_i (fun h => ?_) (fun h => ?_)) | refine zg ?_ | refine zi ?_ | refine zb ?_)
  all_goals conv => whnf
  all_goals rfl
theorem cParse_fn (s : Str) (hs0 : s.length ≤ 9223372036854775807) : FnOK Tryd.prog 12 [.one (str s)] (retMd (parseV s)) := by
  by_cases hs : 2500 < s.length
  · have e : parseV s = (mdZ, 4) := if_pos hs
    rw [e]
    exact parse_big s hs hs0
  · refine fun w M vs hM hvs => .inl ⟨12, Tryd.call12 _ _, ?_⟩
    match vs, hvs with
    | [v], hvs =>
      have hv : v = bstr s := by
        have := hvs.1
        cases this; rfl
      subst hv
      exact callsIn_wide.1 (parse_in (n := 6) s (by omega) w hM.gd M hM.lt (Nat.le_refl _))
    | [], hvs => exact hvs.elim
    | _ :: _ :: _, hvs => exact hvs.2.elim
end Go.Proofs.YtgdpogdgpfjnoaaDoor

namespace Go.Proofs.YtgdpogdgpfjnoaaDoor
open Go Go.RowKit Go.Sort Sx
open Go.Lib hiding intOf
set_option maxRecDepth 100000 in
set_option maxHeartbeats 4000000 in
theorem LCTexts_fn (m : Md) (s : Str) (hs0 : s.length ≤ 9223372036854775807) : FnOK Tryd.prog 3 [m.dc, .one (str s)] (.c (.one (bol true))) := by
  have H0 := rfGreat_fn m.l
  cases hg : great m.l
  · rw [hg] at H0
    have hl : m.l.length ≤ 1000000 := by
      unfold great at hg; simp at hg; omega
    by_cases h : s.length ≤ 2600
    · have HT := roTwin_fn m hl
      have H1 := cText_fn m
      have H2 := rcText_fn m
      have H3 := cParse_fn s hs0
      have H4 := rcParse_fn s (by omega)
      rw [← parse_eq] at H4
      have S1 := roSameModel_fn (parseV s).1 (parseV s).1
      have S2 := roSameModel_fn m m
      simp only [decide_true] at S1 S2
      generalize textSV m = x at *
      generalize parseV s = y at *
      obtain ⟨x1, x2⟩ := x
      obtain ⟨⟨y1, y2, y3⟩, y4⟩ := y
      simp only [retS, retMd] at *
      refine fn_ok (by kernel_rfl) ty_ok Tryd.func3 rfl (fun _ _ => Tryd.call3 _ _) rfl ?_
      intro hw
      clear hw
      repeat' ((conv => whnf); first | (with_reducible first | refine br_t ?_ | refine br_f ?_ | refine za ?_ | refine zg ?_) | refine zsl ?_ | refine zsg ?_ | refine zss ?_ | refine zs1 ?_ | refine zse ?_ | refine zsn ?_ | refine zsc ?_ | (with_reducible first | refine zpa ?_ | refine zqa ?_) | refine zp ?_ | refine zq ?_ | (with_reducible first | refine bc (fun h => ?_) (fun h => ?_) | refine zt ?_ | refine zf ?_ | refine br_i (fun h => ?_) (fun h => ?_)) | refine zg ?_ | refine zi ?_ | refine zb ?_)
      all_goals conv => whnf
      all_goals first | rfl | (exfalso; omega) | exact r_bool (by simp)
    · refine fn_ok (by kernel_rfl) ty_ok Tryd.func3 rfl (fun _ _ => Tryd.call3 _ _) rfl ?_
      intro hw
      clear hw
      repeat' ((conv => whnf); first | (with_reducible first | refine br_t ?_ | refine br_f ?_ | refine za ?_ | refine zg ?_) | refine zsl ?_ | refine zsg ?_ | refine zss ?_ | refine zs1 ?_ | refine zse ?_ | refine zsn ?_ | refine zsc ?_ | (with_reducible first | refine zpa ?_ | refine zqa ?_) | refine zp ?_ | refine zq ?_ | (with_reducible first | refine bc (fun h => ?_) (fun h => ?_) | refine zt ?_ | refine zf ?_ | refine br_i (fun h => ?_) (fun h => ?_)) | refine zg ?_ | refine zi ?_ | refine zb ?_)
      all_goals conv => whnf
      all_goals first | rfl | (exfalso; omega)
  · rw [hg] at H0
    refine fn_ok (by kernel_rfl) ty_ok Tryd.func3 rfl (fun _ _ => Tryd.call3 _ _) rfl ?_
    intro hw
    clear hw
    repeat' ((conv => whnf); first | (with_reducible first | refine br_t ?_ | refine br_f ?_ | refine za ?_ | refine zg ?_) | refine zsl ?_ | refine zsg ?_ | refine zss ?_ | refine zs1 ?_ | refine zse ?_ | refine zsn ?_ | refine zsc ?_ | (with_reducible first | refine zpa ?_ | refine zqa ?_) | refine zp ?_ | refine zq ?_ | (with_reducible first | refine bc (fun h => ?_) (fun h => ?_) | refine zt ?_ | refine zf ?_ | refine br_i (fun h => ?_) (fun h => ?_)) | refine zg ?_ | refine zi ?_ | refine zb ?_)
    all_goals conv => whnf
    all_goals rfl
end Go.Proofs.YtgdpogdgpfjnoaaDoor

namespace Go.Proofs.YtgdpogdgpfjnoaaDoor
open Go Go.RowKit Go.ChangeShapes Go.WideShapes Go.ChangeAt Sx
theorem configTexts_own : ownKnob Tryd.prog.godebug = none := by kernel_rfl
set_option maxRecDepth 100000 in
theorem configTexts_wit (os : Os) {H : Type} (enc : TypeId × Value → H) :
    (OpenSpec.ofChange Rows.configTextsSpec).preRow enc Tryd.prog Tryd.f3 Rows.configTextsRow.domain false Rows.configTextsRow.laid ((laidWorld os).forCall (fun _ _ => 0) ⟨#[], #[.agg #[.int .i64 0, .int .i64 0, .slice none 0 0], .string ⟨#[]⟩], []⟩).memory #[.agg #[.int .i64 0, .int .i64 0, .slice none 0 0], .string ⟨#[]⟩] := by
  have hw : (DataW.whole enc Tryd.prog ((laidWorld os).forCall (fun _ _ => 0) ⟨#[], #[.agg #[.int .i64 0, .int .i64 0, .slice none 0 0], .string ⟨#[]⟩], []⟩).memory Tryd.f3.params.toList (OpenSpec.ofChange Rows.configTextsSpec).vars false (#[.agg #[.int .i64 0, .int .i64 0, .slice none 0 0], .string ⟨#[]⟩] : Array Value).toList 8).map (fun x => (x.1, x.2.1)) =
      some ([.agg [.agg [.lit (.int .i64 0), .lit (.int .i64 0)], .agg [.nil]], .lit (.string [])], []) := by kernel_rfl
  obtain ⟨⟨x1, x2, x3⟩, hx, hx1⟩ := Option.map_eq_some_iff.1 hw
  simp only [Prod.mk.injEq] at hx1
  obtain ⟨rfl, rfl⟩ := hx1
  exact OpenSpec.preRow_of_cond 8 hx (by kernel_rfl) (fun k hk => by cases hk) (by kernel_rfl) (laid_met os _)
set_option maxRecDepth 100000 in
theorem configTexts_lifted (os : Os) (started : os.Started) (H : Type) (enc : TypeId × Value → H) (F : Stop.Interp) :
    ReturnsInHanded {} Tryd.checked os 3 .any ((OpenSpec.ofChange Rows.configTextsSpec).preRow enc Tryd.prog Tryd.f3 Rows.configTextsRow.domain false Rows.configTextsRow.laid) (((OpenSpec.ofChange Rows.configTextsSpec).at F).post enc Tryd.prog Tryd.f3 false true false false) := by
  refine returnsInHanded_of_row (C := Tryd.checked) (s := OpenSpec.ofChange Rows.configTextsSpec) configTexts_own started (by kernel_rfl) Tryd.func3
    (witness_row_at (enc := enc) (C := Tryd.checked) false (laidWorld os) #[.agg #[.int .i64 0, .int .i64 0, .slice none 0 0], .string ⟨#[]⟩] rfl (by kernel_rfl) (by kernel_rfl) (by kernel_rfl) (configTexts_wit os enc)) ?_
  intro W base args ds gs before hval0 hW _ _ _ hL hsh _
  have hgd := gd_of hL hsh
  have hval : ∀ (j : Nat) t v, Tryd.f3.params[j]? = some t → args[j]? = some v → Value.okWide Tryd.prog W .any base t v := hval0
  have hW' := hW
  obtain ⟨p, q, hA0, hV, rfl, hfz, hnd⟩ := hW
  have hA : DataW.TrodAll enc Tryd.prog W 0 (fun _ => true) true Tryd.f3.params.toList args.toList ds p := hA0
  rw [Tryd.params3] at hA hval
  obtain ⟨v0, vs0, d0, ds0, p0, q0, hargs, rfl, rfl, h0, r0⟩ := trodAll_cons hA
  obtain ⟨v1, vs1, d1, ds1, p1, q1, rfl, rfl, rfl, h1, r1⟩ := trodAll_cons r0
  obtain ⟨rfl, rfl, rfl⟩ := trodAll_nil r1
  obtain rfl : args = #[v0, v1] := by cases args; simp_all
  obtain ⟨e0, hd0, hf0⟩ := arg_data (tyB_ok (s := shModel) (by kernel_rfl)) (hval 0 28 v0 rfl rfl) h0
  obtain ⟨m, rfl⟩ := fit_model hf0
  obtain ⟨e1, hd1, hf1⟩ := arg_data (tyB_ok (s := .str) (by kernel_rfl)) (hval 1 9 v1 rfl rfl) h1
  obtain ⟨s, hs, rfl⟩ := fit_str hf1
  refine (law_of_fn (vs := [v0, v1]) (fun _ _ => Tryd.call3 _ _) (LCTexts_fn m s hs) hgd ⟨hd0, hd1, trivial⟩).mono fun e W' ⟨he, hb⟩ => ?_
  subst he
  exact ⟨_, rfl, law_post (s := Rows.configTextsSpec) (by kernel_rfl) (by kernel_rfl) rfl Tryd.underlying4 rfl hW' ⟨rfl, rfl, rfl⟩ hb⟩
theorem configTexts_and {a b : Bool} (h : a = true) (k : b = true) : (a && b) = true := by rw [h, k]; rfl
theorem configTexts_c0 : (Rows.configTextsRow.inPlace == Tryd.prog.inPlace 3) = true := by kernel_rfl
theorem configTexts_c1 : (Rows.configTextsRow.unfollowed == Tryd.prog.unfollowed 3) = true := by kernel_rfl
theorem configTexts_c2 : (Rows.configTextsRow.recurses == Tryd.prog.recurses 3) = true := by kernel_rfl
theorem configTexts_c3 : (Rows.configTextsRow.named == Tryd.prog.varsNamed 3) = true := by kernel_rfl
theorem configTexts_c4 : (Rows.configTextsRow.loops == (Tryd.f3.params.toList ++ (OpenSpec.ofChange Rows.configTextsSpec).bare.plain.varTypes Tryd.prog).any (Tryd.prog.loopsFrom ·)) = true := by kernel_rfl
theorem configTexts_c5 : laidOutB Tryd.prog = true := by kernel_rfl
theorem configTexts_c6 : mapsRowed Tryd.prog = true := by kernel_rfl
theorem configTexts_c7 : Tryd.prog.stopsHeard = true := by kernel_rfl
theorem configTexts_c8 : Tryd.prog.mayEnter = true := by kernel_rfl
theorem configTexts_facts : joinedFacts Tryd.prog 3 Tryd.f3 (OpenSpec.ofChange Rows.configTextsSpec).bare Rows.configTextsRow = true := by
  unfold joinedFacts
  repeat' (with_reducible refine configTexts_and ?_ ?_)
  all_goals first | with_reducible exact configTexts_c0 | with_reducible exact configTexts_c1 | with_reducible exact configTexts_c2 | with_reducible exact configTexts_c3 | with_reducible exact configTexts_c4 | with_reducible exact configTexts_c5 | with_reducible exact configTexts_c6 | with_reducible exact configTexts_c7 | with_reducible exact configTexts_c8 | kernel_rfl
theorem configTexts_over : Rows.configTextsRow.holds Tryd.pinned (OpenSpec.ofChange Rows.configTextsSpec) :=
  OpenClaim.holds_of_cond 3 Tryd.f3 rfl rfl rfl rfl rfl rfl rfl ⟨rfl, rfl, rfl, rfl, rfl⟩ rfl rfl rfl rfl rfl (by kernel_rfl) Tryd.func3 configTexts_facts
    (of_decide_eq_true (by kernel_rfl)) (by unfold Func.isWrapper; rw [if_neg (of_decide_eq_false (by kernel_rfl))]; exact ⟨rfl, rfl⟩)
    (fun os started H enc _ F0 => by rw [OpenClaim.pre_eq_preRow]; exact configTexts_lifted os started H enc F0)
theorem configTexts_params : (Tryd.f3.params.toList.all fun t => !Tryd.prog.wantsStandIn t) = true := by kernel_rfl
theorem configTexts_proved : Rows.ConfigTextsCardSaid :=
  Claim7.holds_tied_plain_at .later [] Rows.configTextsCard.laidKinds true Rows.configTextsCard.stood.harness false
    configTexts_over (fun _ h => by cases h) (by kernel_rfl) (fun _ h => by cases h) configTexts_row_tie rfl ⟨rfl, rfl⟩ (by kernel_rfl) rfl
    (fun f fn hf hfn => by
      obtain rfl : f = 3 := Option.some.inj (hf.symm.trans (show Tryd.prog.funcNamed "peloton/pelotonlaw44.ConfigTexts" = some 3 by kernel_rfl))
      obtain rfl : fn = Tryd.f3 := (Option.some.inj (Tryd.func3.symm.trans hfn)).symm
      exact ⟨by kernel_rfl, fun j t ht => by
        have hm : t ∈ Tryd.f3.params.toList := by rw [Array.mem_toList_iff]; exact Array.mem_of_getElem? ht
        exact (by simpa using List.all_eq_true.1 configTexts_params t hm : Tryd.prog.wantsStandIn t = false)⟩)
    (by kernel_rfl)
#print axioms configTexts_proved
end Go.Proofs.YtgdpogdgpfjnoaaDoor
