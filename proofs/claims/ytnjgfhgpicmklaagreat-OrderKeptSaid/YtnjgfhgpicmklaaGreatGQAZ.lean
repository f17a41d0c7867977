import Derived.Shelf.SlIterI.Nil
import Derived.Shelf.SortM.Plain
import Derived.Shelf.SortM.SortNone
import Derived.Ground.GgzProg
import Derived.Ground.SlgmProg
import Derived.Test.YtnjgfhgpicmklaaGreatProg
import Derived.Test.YtnjgfhgpicmklaaGreatGQAY
import Derived.Test.YtnjgfhgpicmklaaGreatGQAL
import Derived.Maps.OwnSet
import Derived.Test.YtnjgfhgpicmklaaGreatGQAT
set_option linter.all false
namespace Go.Proofs
open Go.Shelf
def Tryz.cntKeys_ren : Go.Shelf.Ren := ⟨fun | 7 => 37 | 10 => 69 | n => n, fun | 23 => 88 | 26 => 31 | 3 => 3 | 28 => 91 | 0 => 0 | 27 => 90 | 33 => 121 | 4 => 4 | n => n, fun | n => n⟩
theorem Tryz.cntKeys : Go.Proofs.SlLaysZI.n7 Tryz.prog Tryz.cntKeys_ren := {
  mixed := by kernel_rfl
  f7 := ⟨Tryz.f37.name, by decide, Tryz.func37.trans (congrArg some (by kernel_rfl))⟩
  f10 := ⟨Tryz.f69.name, by decide, Tryz.func69.trans (congrArg some (by kernel_rfl))⟩
  t0 := Tryz.underlying0
  a0 := Tryz.isAgg0
  z0 := Tryz.sizeOf0
  v0 := Tryz.zeroValue0
  t4 := Tryz.underlying4
  a4 := Tryz.isAgg4
  z4 := Tryz.sizeOf4
  v4 := Tryz.zeroValue4
  t23 := Tryz.underlying88
  a23 := Tryz.isAgg88
  z23 := Tryz.sizeOf88
  v23 := Tryz.zeroValue88
  t26 := Tryz.underlying31
  a26 := Tryz.isAgg31
  z26 := Tryz.sizeOf31
  v26 := Tryz.zeroValue31
  t27 := Tryz.underlying90
  a27 := Tryz.isAgg90
  z27 := Tryz.sizeOf90
  v27 := Tryz.zeroValue90
  t28 := Tryz.underlying91
  a28 := Tryz.isAgg91
  z28 := Tryz.sizeOf91
  v28 := Tryz.zeroValue91
  t33 := Tryz.underlying121
  a33 := Tryz.isAgg121
  z33 := Tryz.sizeOf121
  v33 := Tryz.zeroValue121 }
def Tryz.cntSorted_ren : Go.Shelf.Ren := ⟨fun | 6 => 36 | 8 => 67 | 9 => 68 | 11 => 98 | 13 => 100 | 12 => 99 | 23 => 140 | 24 => 141 | 14 => 131 | 15 => 132 | 16 => 133 | 17 => 134 | 18 => 135 | 19 => 136 | 20 => 137 | 21 => 138 | 22 => 139 | 25 => 175 | 26 => 176 | 27 => 177 | 28 => 178 | 29 => 179 | 30 => 180 | 31 => 206 | n => n, fun | 26 => 31 | 28 => 91 | 24 => 78 | 0 => 0 | 3 => 3 | 37 => 158 | 48 => 204 | 50 => 152 | 4 => 4 | 40 => 197 | 39 => 196 | 45 => 166 | 5 => 5 | 9 => 9 | 51 => 238 | 55 => 242 | 57 => 267 | 58 => 34 | 33 => 121 | n => n, fun | n => n⟩
theorem Tryz.cntSorted : Go.Proofs.SlLaysZI.n6 Tryz.prog Tryz.cntSorted_ren := {
  mixed := by kernel_rfl
  f6 := ⟨Tryz.f36.name, by decide, Tryz.func36.trans (congrArg some (by kernel_rfl))⟩
  f8 := ⟨Tryz.f67.name, by decide, Tryz.func67.trans (congrArg some (by kernel_rfl))⟩
  f11 := ⟨Tryz.f98.name, by decide, Tryz.func98.trans (congrArg some (by kernel_rfl))⟩
  t0 := Tryz.underlying0
  a0 := Tryz.isAgg0
  z0 := Tryz.sizeOf0
  v0 := Tryz.zeroValue0
  t24 := Tryz.underlying78
  a24 := Tryz.isAgg78
  z24 := Tryz.sizeOf78
  v24 := Tryz.zeroValue78
  t26 := Tryz.underlying31
  a26 := Tryz.isAgg31
  z26 := Tryz.sizeOf31
  v26 := Tryz.zeroValue31
  t28 := Tryz.underlying91
  a28 := Tryz.isAgg91
  z28 := Tryz.sizeOf91
  v28 := Tryz.zeroValue91
  i26 := by kernel_rfl }
def Tryz.cntSort_ren : Go.Shelf.Ren := ⟨fun | 5 => 68 | 8 => 100 | 7 => 99 | 19 => 140 | 20 => 141 | 10 => 131 | 11 => 132 | 12 => 133 | 13 => 134 | 14 => 135 | 15 => 136 | 16 => 137 | 17 => 138 | 18 => 139 | 30 => 175 | 31 => 176 | 32 => 177 | 33 => 178 | 34 => 179 | 35 => 180 | 40 => 206 | n => n, fun | 23 => 78 | 25 => 31 | 3 => 3 | 32 => 158 | 22 => 78 | 0 => 0 | 44 => 204 | 46 => 152 | 4 => 4 | 36 => 197 | 35 => 196 | 41 => 166 | 5 => 5 | 9 => 9 | 53 => 238 | 57 => 242 | 63 => 267 | 64 => 34 | n => n, fun | n => n⟩
theorem Tryz.cntSort : Go.Proofs.SlLaysM.n5 Tryz.prog Tryz.cntSort_ren := {
  mixed := by kernel_rfl
  f5 := ⟨Tryz.f68.name, by decide, Tryz.func68.trans (congrArg some (by kernel_rfl))⟩
  f7 := ⟨Tryz.f99.name, by decide, Tryz.func99.trans (congrArg some (by kernel_rfl))⟩
  f8 := Tryz.func100.trans (congrArg some (by kernel_rfl))
  f10 := ⟨Tryz.f131.name, by decide, Tryz.func131.trans (congrArg some (by kernel_rfl))⟩
  f11 := ⟨Tryz.f132.name, by decide, Tryz.func132.trans (congrArg some (by kernel_rfl))⟩
  f12 := ⟨Tryz.f133.name, by decide, Tryz.func133.trans (congrArg some (by kernel_rfl))⟩
  f13 := ⟨Tryz.f134.name, by decide, Tryz.func134.trans (congrArg some (by kernel_rfl))⟩
  f14 := ⟨Tryz.f135.name, by decide, Tryz.func135.trans (congrArg some (by kernel_rfl))⟩
  f15 := ⟨Tryz.f136.name, by decide, Tryz.func136.trans (congrArg some (by kernel_rfl))⟩
  f16 := ⟨Tryz.f137.name, by decide, Tryz.func137.trans (congrArg some (by kernel_rfl))⟩
  f17 := ⟨Tryz.f138.name, by decide, Tryz.func138.trans (congrArg some (by kernel_rfl))⟩
  f18 := ⟨Tryz.f139.name, by decide, Tryz.func139.trans (congrArg some (by kernel_rfl))⟩
  f19 := Tryz.func140.trans (congrArg some (by kernel_rfl))
  f20 := Tryz.func141.trans (congrArg some (by kernel_rfl))
  f30 := ⟨Tryz.f175.name, by decide, Tryz.func175.trans (congrArg some (by kernel_rfl))⟩
  f31 := Tryz.func176.trans (congrArg some (by kernel_rfl))
  f32 := Tryz.func177.trans (congrArg some (by kernel_rfl))
  f33 := ⟨Tryz.f178.name, by decide, Tryz.func178.trans (congrArg some (by kernel_rfl))⟩
  f34 := ⟨Tryz.f179.name, by decide, Tryz.func179.trans (congrArg some (by kernel_rfl))⟩
  f35 := ⟨Tryz.f180.name, by decide, Tryz.func180.trans (congrArg some (by kernel_rfl))⟩
  f40 := ⟨Tryz.f206.name, by decide, Tryz.func206.trans (congrArg some (by kernel_rfl))⟩
  t0 := Tryz.underlying0
  a0 := Tryz.isAgg0
  z0 := Tryz.sizeOf0
  v0 := Tryz.zeroValue0
  t3 := Tryz.underlying3
  a3 := Tryz.isAgg3
  z3 := Tryz.sizeOf3
  v3 := Tryz.zeroValue3
  t4 := Tryz.underlying4
  a4 := Tryz.isAgg4
  z4 := Tryz.sizeOf4
  v4 := Tryz.zeroValue4
  t5 := Tryz.underlying5
  a5 := Tryz.isAgg5
  z5 := Tryz.sizeOf5
  v5 := Tryz.zeroValue5
  t9 := Tryz.underlying9
  a9 := Tryz.isAgg9
  z9 := Tryz.sizeOf9
  v9 := Tryz.zeroValue9
  t22 := Tryz.underlying78
  a22 := Tryz.isAgg78
  z22 := Tryz.sizeOf78
  v22 := Tryz.zeroValue78
  t23 := Tryz.underlying78
  a23 := Tryz.isAgg78
  z23 := Tryz.sizeOf78
  v23 := Tryz.zeroValue78
  t25 := Tryz.underlying31
  a25 := Tryz.isAgg31
  z25 := Tryz.sizeOf31
  v25 := Tryz.zeroValue31
  t32 := Tryz.underlying158
  a32 := Tryz.isAgg158
  z32 := Tryz.sizeOf158
  v32 := Tryz.zeroValue158
  t35 := Tryz.underlying196
  a35 := Tryz.isAgg196
  z35 := Tryz.sizeOf196
  v35 := Tryz.zeroValue196
  t36 := Tryz.underlying197
  a36 := Tryz.isAgg197
  z36 := Tryz.sizeOf197
  v36 := Tryz.zeroValue197
  t41 := Tryz.underlying166
  a41 := Tryz.isAgg166
  z41 := Tryz.sizeOf166
  v41 := Tryz.zeroValue166
  t44 := Tryz.underlying204
  a44 := Tryz.isAgg204
  z44 := Tryz.sizeOf204
  v44 := Tryz.zeroValue204
  t46 := Tryz.underlying152
  a46 := Tryz.isAgg152
  z46 := Tryz.sizeOf152
  v46 := Tryz.zeroValue152
  t53 := Tryz.underlying238
  a53 := Tryz.isAgg238
  z53 := Tryz.sizeOf238
  v53 := Tryz.zeroValue238
  t57 := Tryz.underlying242
  a57 := Tryz.isAgg242
  z57 := Tryz.sizeOf242
  v57 := Tryz.zeroValue242
  t63 := Tryz.underlying267
  a63 := Tryz.isAgg267
  z63 := Tryz.sizeOf267
  v63 := Tryz.zeroValue267
  t64 := Tryz.underlying34
  a64 := Tryz.isAgg34
  z64 := Tryz.sizeOf34
  v64 := Tryz.zeroValue34 }
end Go.Proofs

namespace Go.Proofs.YtnjgfhgpicmklaaGreat
open Go Go.RowKit Go.Sort Sx Go.Maps
theorem calls_of_fnok {P : Program} {f : Nat} {args : List DC} {r : DV} (H : FnOK P f args r) {w : World} {M : Nat → Prop} {vs : List Value} (hM : ∀ b, M b → b < w.heap.size) (hvs : DCsR w M args vs) (hcall : (callFunc f vs.toArray).run P w = .ok (.enter f vs.toArray) w) :
    Calls P f vs.toArray w fun e w' => ∃ v, e = .returned v ∧ DVR w' M r v ∧ Below w.heap.size w w' := by
  rcases H w M vs hM hvs with ⟨g, hg, hc⟩ | ⟨v, hg, _⟩
  · have := hcall.symm.trans hg
    injection this with h1 h2
    injection h1 with h1
    subst h1; exact hc
  · have := hcall.symm.trans hg
    injection this with h1 h2
    cases h1
theorem rep_i64 {w : World} {M : Nat → Prop} {n : Int} {v : Value} (h : Rep w M (i64 n) v) : v = .int .i64 n := by
  cases h; rfl
abbrev intc (l : List Int) : Sx.D := .list 1 (l.map fun i => [i64 i])
theorem rep_ints {w : World} {M : Nat → Prop} {es : List Int} {v : Value} (h0 : es ≠ []) (h : Rep w M (intc es) v) : ∃ b off cap, v = .slice (some ⟨b, off, none⟩) es.length cap ∧ b < w.heap.size ∧ (∀ i (hi : i < es.length), w.cell? ⟨b, off + i, none⟩ = some (.int .i64 es[i])) ∧ ∀ e ∈ es, inK .i64 e := by
  have hwd := h.wd
  obtain ⟨l, hl⟩ : ∃ l : List (List Sx.D), l = es.map fun i => [i64 i] := ⟨_, rfl⟩
  have hll : l.length = es.length := by rw [hl, List.length_map]
  have hw : ∀ e ∈ es, inK .i64 e := fun e he => WD_v.1 ((WD_list.1 hwd).2.2 [i64 e] (List.mem_map.2 ⟨e, he, rfl⟩) (i64 e) (List.mem_singleton.2 rfl))
  have h' : Rep w M (.list 1 l) v := by rw [hl]; exact h
  clear h hwd
  cases h' with
  | nil k x c hm hx =>
    exact absurd (List.eq_nil_of_length_eq_zero (by rw [← hll]; rfl)) h0
  | @list b off cap k l vs hc hm hMb hb hk hv hr =>
    refine ⟨b, off, cap, by rw [hll], hb, fun i hi => ?_, hw⟩
    have hi' : i < l.length := by omega
    have h1 := hv i 0 hi' (by decide)
    have e1 : l[i] = [i64 es[i]] := by subst hl; rw [List.getElem_map]
    have h2 := hr i 0 hi' (by rw [e1]; exact Nat.zero_lt_one)
    have e2 : l[i][0]'(by rw [e1]; exact Nat.zero_lt_one) = i64 es[i] := by simp only [e1]; rfl
    rw [e2] at h2
    rw [rep_i64 h2] at h1
    simpa using h1
theorem errLaw : Keyed Tryz.prog 31 := int_keyed Tryz.underlying31
theorem zeroI (w : World) : (zeroValue 3).run Tryz.prog w = .ok (.int .i64 0) w := by kernel_rfl
theorem cntSorts (m : Nat) : AnyZI.SortsIn Tryz.prog Tryz.cntSorted_ren Fence.wide m :=
  ⟨fun blk off cap ss W hH hblk hsz => callsIn_wide.2 (AnyM.slices_Sort_int Tryz.cntSort blk off cap ss W hH hblk hsz), fun p cap W => callsIn_wide.2 (AnyM.slices_Sort_int_none Tryz.cntSort p cap W)⟩
theorem cntKeys_call (mb : Option Nat) (W : World) : Calls Tryz.prog 37 #[.map mb] W fun e w' => e = .returned (.func (.func 69) #[] #[.pointer (some ⟨W.heap.size, 0, none⟩)]) ∧ w' = W.alloc (.cells #[.map mb] 88) :=
  (callsIn_wide (n := 5)).1 (AnyZI.keys_in Tryz.cntKeys Fence.wide 5 trivial rfl mb W)
set_option maxHeartbeats 1000000 in
theorem cntSorted_call {b nn : Nat} {D : DataW Unit} {R : Value → Option (DataW Unit × List MemPlace)} {w : World} {es : List Int} (hown : w.ownsMap Tryz.prog 31 R b nn D) (hC : Cnt D es) (hr : ∀ e ∈ es, 0 ≤ e ∧ e < 100) (hn : nn ≤ 1000) :
    Calls Tryz.prog 36 #[.func (.func 69) #[] #[.pointer (some ⟨w.heap.size, 0, none⟩)]] (w.alloc (.cells #[.map (some b)] 88)) fun e w' => ∃ v, e = .returned v ∧ w'.ownsRow (w.heap.size + 1) 31 1 v (keysS es).length ((keysS es).map encZ) ∧ Below (w.heap.size + 1) (w.alloc (.cells #[.map (some b)] 88)) w' := by
  refine (callsIn_wide (n := 5)).1 ?_
  have hbl := hown.lt
  have hsz := size_le hown
  have hsz' : (w.alloc (.cells #[.map (some b)] 88)).heap.size = w.heap.size + 1 := World.size_alloc ..
  have hseq : SeqGives Fence.wide 2 Tryz.prog 69 #[.pointer (some ⟨w.heap.size, 0, none⟩)] encZ (fun ss => ss.Perm (intKeys D)) (Maps.size D) (w.alloc (.cells #[.map (some b)] 88)) :=
    AnyZI.keys_gives (ρ := Tryz.cntKeys_ren) { Tryz.cntKeys with } Fence.wide _ trivial rfl (by omega) w.heap.size b nn D _ (by simp) (by simp) (by
      obtain ⟨es, clock, hb, Ft, hs, hD⟩ := hown
      exact ⟨es, clock, (Below.heap_alloc _ _ b hbl).trans hb, Ft, hs, hD⟩)
  have cS := AnyZI.sorted_in Tryz.cntSorted Fence.wide 5 trivial trivial trivial trivial rfl (by omega) (cntSorts _) (enters_of Tryz.func68 (by kernel_rfl) rfl) 69 #[.pointer (some ⟨w.heap.size, 0, none⟩)] trivial (enters_of Tryz.func69 (by kernel_rfl) rfl) _ _ (by unfold maxLen; omega) (by omega) _ hseq
  change CallsIn _ _ Tryz.prog 36 _ _ _ at cS
  refine cS.mono ?_
  rintro e w' ⟨v, ss, rfl, hS, hrow, hnil, hb⟩
  obtain ⟨k1, k2⟩ := keys_sorted hown errLaw Tryz.underlying31 hC hr hS
  rw [k1, k2, hsz'] at hrow
  rw [hsz'] at hb
  exact ⟨v, rfl, hrow, hb⟩
abbrev prv (l : List (Int × Int)) : List Value := l.flatMap fun p => [.int .i64 p.1, .int .i64 p.2]
theorem prv_len : ∀ (l : List (Int × Int)), (prv l).length = l.length * 2
  | [] => rfl
  | p :: l => by
    have := prv_len l
    unfold prv at this ⊢
    rw [List.flatMap_cons, List.length_append, this]
    simp only [List.length_cons, List.length_nil]; omega
theorem prv_ds {w : World} {M : Nat → Prop} : ∀ {l : List (Int × Int)}, (∀ p ∈ l, inK .i64 p.1 ∧ inK .i64 p.2) → DsR w M (prc l).flatten (prv l)
  | [], _ => trivial
  | p :: l, h => by
    obtain ⟨h1, h2⟩ := h p (List.mem_cons_self ..)
    exact ⟨.v _ rfl h1, .v _ rfl h2, prv_ds fun x hx => h x (List.mem_cons_of_mem _ hx)⟩
theorem rep_owns {w : World} {M : Nat → Prop} {base : Nat} {e : TypeId} {v : Value} {l : List (Int × Int)} (h : w.ownsRow base e 2 v l.length (prv l)) (hM : ∀ b, M b → b < base) (hl : ∀ p ∈ l, inK .i64 p.1 ∧ inK .i64 p.2) : Rep w M (.list 2 (prc l)) v := by
  rcases h.2 with ⟨rfl, h0⟩ | ⟨g, cap, cur, rfl, hb, hgb, h1, h2, h3, h4⟩
  · have hl0 : l = [] := List.eq_nil_of_length_eq_zero h0
    subst hl0
    exact .nil 2 none 0 (by omega) (fun _ => rfl)
  · have hlen := prv_len l
    have hg : g < w.heap.size := (Array.getElem?_eq_some_iff.1 hgb).1
    have hll : (prc l).length = l.length := List.length_map ..
    rw [← hll]
    refine rep_of_row (us := prv l) (fun x hx => ?_) (prv_ds hl) (fun i hi => ?_) (by rw [hll]; exact h1) (by unfold maxLen at h2; omega) (fun h => by have := hM _ h; omega) hg
    · obtain ⟨p, _, rfl⟩ := List.mem_map.1 hx; rfl
    · rw [Nat.zero_add]
      simp only [World.cell?, hgb]
      have : (cur.toList.take (l.length * 2))[i]? = (prv l)[i]? := by rw [h4]
      rw [List.getElem?_take_of_lt (by omega)] at this
      simpa using this
theorem owns_cell {w : World} {base : Nat} {e : TypeId} {v : Value} {S : List Int} (h0 : S ≠ []) (h : w.ownsRow base e 1 v S.length (S.map encZ)) : ∃ g cap, v = .slice (some ⟨g, 0, none⟩) S.length cap ∧ g < w.heap.size ∧ ∀ i (hi : i < S.length), w.cell? ⟨g, i, none⟩ = some (.int .i64 S[i]) := by
  rcases h.2 with ⟨rfl, hz⟩ | ⟨g, cap, cur, rfl, hb, hgb, h1, h2, h3, h4⟩
  · exact absurd (List.eq_nil_of_length_eq_zero hz) h0
  · refine ⟨g, cap, rfl, (Array.getElem?_eq_some_iff.1 hgb).1, fun i hi => ?_⟩
    simp only [World.cell?, hgb]
    have : (cur.toList.take (S.length * 1))[i]? = (S.map encZ)[i]? := by rw [h4]
    rw [List.getElem?_take_of_lt (by omega), List.getElem?_map, List.getElem?_eq_getElem hi] at this
    simpa using this
theorem owns_none {w : World} {base : Nat} {e : TypeId} {v : Value} {xs : List Value} (h : w.ownsRow base e 1 v 0 xs) : ∃ x c, v = .slice x 0 c := by
  rcases h.2 with ⟨rfl, hz⟩ | ⟨g, cap, cur, rfl, hb, hgb, h1, h2, h3, h4⟩
  · exact ⟨_, _, rfl⟩
  · exact ⟨_, _, rfl⟩
theorem owns_below {w w' : World} {P : Program} {k : TypeId} {R : Value → Option (DataW Unit × List MemPlace)} {b n : Nat} {D : DataW Unit} {B : Nat} (h : w.ownsMap P k R b n D) (hb : b < B) (hB : Below B w w') : w'.ownsMap P k R b n D := by
  obtain ⟨es, clock, he, F, hs, hD⟩ := h
  exact ⟨es, clock, (hB.block b hb).trans he, F, hs, hD⟩
theorem two_cells (W : World) (T : TypeId) (a b : Value) : ∀ (j : Nat) (u : Value), ([a, b] : List Value)[j]? = some u → (W.alloc (.cells #[a, b] T)).cell? ((⟨W.heap.size, 0, none⟩ : Addr).add j) = some u := fun j u hj => by
  have hn := World.alloc_heap_new W (.cells #[a, b] T)
  rw [Sx.add_plain, Nat.zero_add]
  simp only [World.cell?, hn]
  simpa using hj
set_option maxRecDepth 100000 in
set_option maxHeartbeats 4000000 in
theorem qCounts_ne {d1 d2 d3 al : Sx.D} {es : List Int} (HE : FnOK Tryz.prog 29 [.agg [d1, d2, d3], .one al] (.tup [.one (intc es), .one (i64 0)])) (hr : ∀ e ∈ es, 0 ≤ e ∧ e < 100) (hlen : es.length ≤ 1000) (h0 : es ≠ []) : FnOK Tryz.prog 10 [.agg [d1, d2, d3], .one al] (.tup [.one (.list 2 (prc (cnts es))), .one (i64 0)]) := by
  refine fun w M vs hM hvs => .inl ⟨10, Tryz.call10 _ _, ?_⟩
  match vs, hvs with
  | [u, lv], ⟨⟨us, e, hus⟩, hlv, _⟩ =>
    subst e
    match us, hus with
    | [xa, xb, xc], ⟨ha, hb, hc, _⟩ =>
      have o1 := Rep.one ha
      have o2 := Rep.one hb
      have o3 := Rep.one hc
      have o4 := Rep.one hlv
      obtain ⟨W1, hW1⟩ : ∃ W1, W1 = w.alloc (.cells #[xa, xb, xc] 28) := ⟨_, rfl⟩
      have hB1 : Below w.heap.size w W1 := by rw [hW1]; exact (Below.refl _ _).alloc (Nat.le_refl _) _
      have hho := Holds.of_below (M := M) hB1
      have hid : ∀ b, b < w.heap.size → M b → M b := fun _ _ h => h
      have HC : Calls Tryz.prog 29 #[.agg #[xa, xb, xc], lv] W1 fun e w' => ∃ b off cap, e = .returned (.tuple #[.slice (some ⟨b, off, none⟩) es.length cap, .int .i64 0]) ∧ b < w'.heap.size ∧ (∀ i (hi : i < es.length), w'.cell? ⟨b, off + i, none⟩ = some (.int .i64 es[i])) ∧ (∀ e ∈ es, inK .i64 e) ∧ Below w.heap.size w w' := by
        refine (calls_of_fnok HE (w := W1) (M := M) (vs := [.agg #[xa, xb, xc], lv]) (fun b hb => Nat.lt_of_lt_of_le (hM b hb) hB1.size) ⟨⟨[xa, xb, xc], rfl, ha.mono hho hid, hb.mono hho hid, hc.mono hho hid, trivial⟩, hlv.mono hho hid, trivial⟩ (Tryz.call29 _ _)).mono ?_
        rintro e w' ⟨v, rfl, ⟨us, rfl, hus⟩, hb⟩
        match us, hus with
        | [x, y], ⟨hx, hy, _⟩ =>
          obtain ⟨b, off, cap, rfl, h1, h2, h3⟩ := rep_ints h0 hx
          obtain rfl := rep_i64 hy
          exact ⟨b, off, cap, rfl, h1, h2, h3, hB1.trans (hb.mono hB1.size)⟩
      have hS0 : keysS es ≠ [] := fun e => by
        cases es with
        | nil => exact h0 rfl
        | cons x r =>
          have := (keysS_mem hr x).2 (List.mem_cons_self ..)
          rw [e] at this; cases this
      have hSl := keysS_len es
      have hmm := @run_makeMap Tryz.prog
      clear HE ha hb hc hlv
      go_enter Tryz.func10, Tryz.ntmps10
      subst hW1
      go_wp2_with (go_at_call 29; refine HC.mono ?_; rintro e w2 ⟨b, off, cap, rfl, hbl, hcell, hwf, hB2⟩)
      go_loopw [26] (fun i wr => ∃ (k : Nat) (D : DataW Unit), k ≤ es.length ∧ i = .int .i64 k ∧ wr.ownsMap Tryz.prog 31 (plainElem Tryz.prog 3) w2.heap.size k D ∧ Cnt D (es.take k) ∧ Below w2.heap.size w2 wr) (fun i _ => es.length - (intOf i).toNat)
      case atStart => exact ⟨0, .map [], Nat.zero_le _, rfl, World.ownsMap_made _ _ _ _, cnt_nil, (Below.refl _ _).alloc (Nat.le_refl _) _⟩
      case round =>
        obtain ⟨k, D, hk, rfl, hown, hC, hnx⟩ := hrel
        rcases Nat.lt_or_ge k es.length with hlt | hge
        · have hcx := (hnx.cell (by exact hbl)).trans (hcell k hlt)
          have hxw := hwf _ (List.getElem_mem hlt)
          have htk : es.take (k + 1) = es.take k ++ [es[k]] := List.take_succ_eq_append_getElem hlt
          generalize es[k] = x at *
          have hkey : keyOf Tryz.prog 31 (.int .i64 x) = some (.int .i64 x) := keyOf_int_mk Tryz.underlying31 (WalkArith.wf_i64 hxw)
          go_wp2_with (first
            | (at_lookup; refine wpList_lookup_own_int _ rfl _ _ 88 rfl 31 3 .i64 errLaw Tryz.underlying88 Tryz.underlying3 (zeroI _) w2.heap.size k _ rfl hown _ _ rfl hkey ?_; intro c hat hwc)
            | (at_mapUpdate; refine wpList_mapUpdate_own _ rfl _ _ _ 88 rfl 31 3 errLaw Tryz.underlying88 _ w2.heap.size k _ rfl hown (by unfold maxLen; omega) _ _ _ rfl rfl hkey _ [] (plainElem_int Tryz.underlying3 (wrap64_wf _)) ?_; intro w1 hown1 hgrow1)
            | go_in)
          have hcc : c = ((es.take k).count x : Nat) := by
            have := (hC.1 x).symm.trans hat
            injection this with this; injection this with _ this; exact this.symm
          have hcb := count_take_le es x k
          have hwr : wrap64 (c + 1) = c + 1 := IntWalk.wrap64_in _ (by omega)
          rw [hwr] at hown1
          go_roundw
          case rel => exact ⟨k + 1, _, by omega, by go_num, hown1, htk ▸ cnt_snoc hC hown.isMap x c hcc, hnx.grown hgrow1 hnx.size (fun j hj => by cases hj; exact Nat.le_refl _)⟩
          case measure => simp [intOf]; omega
        · obtain rfl : k = es.length := by omega
          rw [List.take_length] at hC
          go_wp2_with (first
            | (go_at_call 37; refine (cntKeys_call _ _).mono ?_; rintro e w3 ⟨rfl, rfl⟩)
            | (go_at_call 36; refine (cntSorted_call hown hC hr hlen).mono ?_; rintro e w5 ⟨sv, rfl, hrow, hB5⟩; obtain ⟨g, gc, rfl, hgl, hgc⟩ := owns_cell hS0 hrow))
          have hB25 : Below w.heap.size w w5 := hB2.trans ((hnx.trans ((((Below.refl _ wr).alloc (Nat.le_refl _) _).trans (hB5.mono (Nat.le_succ _))).mono hnx.size)).mono hB2.size)
          have hown5 : w5.ownsMap Tryz.prog 31 (plainElem Tryz.prog 3) w2.heap.size es.length D := owns_below (hown.alloc (.cells #[.map (some w2.heap.size)] 88)) (Nat.lt_succ_of_lt hown.lt) hB5
          have hml : w2.heap.size < w5.heap.size := hown5.lt
          clear hown hrow
          have hSr : ∀ x ∈ keysS es, 0 ≤ x ∧ x < 100 := fun x hx => hr x ((keysS_mem hr x).1 hx)
          have hck : (keysS es).map (fun x => (x, (es.count x : Int))) = cnts es := cnts_keys es
          have hcl : ∀ x : Int, es.count x ≤ 1000 := fun x => Nat.le_trans List.count_le_length hlen
          generalize keysS es = S at *
          obtain ⟨f, hf⟩ : ∃ f : Int → Int × Int, f = fun x => (x, (es.count x : Int)) := ⟨_, rfl⟩
          rw [← hf] at hck
          obtain ⟨e, he, hsz, _, _, ti, z, hi0, hsz0, hz0, hzs, _, hby⟩ := (ty_ok 36 (.sl 2 true [.v (.int .i64 0), .v (.int .i64 0)]) rfl).2.2.2
          have hee : e = 93 := by
            have := he.symm.trans Tryz.underlying36
            injection this with this; injection this
          subst hee
          go_loopw [11, 39] (fun v i wr => ∃ k : Nat, k ≤ S.length ∧ i = .int .i64 k ∧ wr.ownsRow w5.heap.size 93 2 v k (prv ((S.take k).map f)) ∧ Below w5.heap.size w5 wr) (fun _ i _ => S.length - (intOf i).toNat)
          case atStart => exact ⟨0, Nat.zero_le _, rfl, ⟨rfl, .inl ⟨rfl, rfl⟩⟩, Below.refl _ _⟩
          case round =>
            obtain ⟨k, hk, rfl, hrw, hnx5⟩ := hrel
            rcases Nat.lt_or_ge k S.length with hlt | hge
            · have hcx := (hnx5.cell (by exact hgl)).trans (hgc k hlt)
              have hown6 := owns_below hown5 hml hnx5
              have hxr := hSr _ (List.getElem_mem hlt)
              have htk : (S.take (k + 1)).map f = (S.take k).map f ++ [f S[k]] := by rw [List.take_succ_eq_append_getElem hlt, List.map_append]; rfl
              generalize S[k] = x at *
              have hkey : keyOf Tryz.prog 31 (.int .i64 x) = some (.int .i64 x) := keyOf_int_mk Tryz.underlying31 (WalkArith.wf_i64 (by omega))
              have o4 : ∀ c : Int, ∀ u ∈ ([.int .i64 x, .int .i64 c] : List Value), u.oneCell' = true := by simp [Value.oneCell']
              have b1 : k + 1 ≤ maxLen := by unfold maxLen; omega
              have b2 : (k + 1) * ti.bytes ≤ 140737488355328 := by
                have : (k + 1) * ti.bytes ≤ 1001 * 65536 := Nat.mul_le_mul (by omega) hby
                omega
              have cM := fun c : Int => two_cells wr 93 (.int .i64 x) (.int .i64 c)
              have b3 : ∀ o, w5.heap.size ≤ (wr.alloc o).heap.size := fun o => by have := hnx5.size; rw [World.size_alloc]; omega
              go_wp2_with (first
                | (at_lookup; refine wpList_lookup_own_int _ rfl _ _ 88 rfl 31 3 .i64 errLaw Tryz.underlying88 Tryz.underlying3 (zeroI _) w2.heap.size es.length _ rfl hown6 _ _ rfl hkey ?_; intro c hat hwc)
                | (at_builtin; refine wpList_append_own _ rfl _ _ 36 rfl w5.heap.size 93 ti z 2 ti.bytes Tryz.underlying36 hi0 hz0 hsz0 rfl hzs (by decide) _ _ _ rfl (hrw.alloc _) ⟨wr.heap.size, 0, none⟩ 1 1 [.int .i64 x, .int .i64 c] rfl rfl (cM c) (o4 c) b1 b2 (b3 _) ?_; intro v' w7 hown' hg7 hnil7)
                | go_in)
              have hcc : (es.count x : Int) = c := by
                have := (hC.1 x).symm.trans hat
                injection this with this; injection this
              go_roundw
              case rel =>
                refine ⟨k + 1, by omega, by go_num, ?_, ?_⟩
                · have e : prv ((S.take k).map f ++ [f x]) = prv ((S.take k).map f) ++ [.int .i64 x, .int .i64 c] := by
                    rw [prv, List.flatMap_append, hf]; simp [hcc]
                  rw [htk, e]; exact hown'
                · refine ((hnx5.alloc hnx5.size _).grown hg7 (b3 _) fun j hj => ?_)
                  rcases hrw.2 with ⟨e, _⟩ | ⟨g1, cap1, cur1, e, hb1, _⟩
                  · rw [e] at hj; cases hj
                  · rw [e] at hj; cases hj; exact hb1
              case measure => simp [intOf]; omega
            · obtain rfl : k = S.length := by omega
              rw [List.take_length] at hrw
              go_wp2
              go_ret2
              refine ⟨_, rfl, ⟨[_, _], rfl, ?_, .v _ rfl (wfB_iff rfl), trivial⟩, hB25.trans (hnx5.mono hB25.size)⟩
              have hll : (S.map f).length = S.length := List.length_map ..
              rw [← hll] at hrw
              rw [← hck]
              refine rep_owns hrw (fun b hb => Nat.lt_of_lt_of_le (hM b hb) hB25.size) fun p hp => ?_
              obtain ⟨x, hx, rfl⟩ := List.mem_map.1 hp
              have h1 := hSr x hx
              have h2 := hcl x
              rw [hf]
              exact ⟨⟨by dsimp only; omega, by dsimp only; omega⟩, ⟨by dsimp only; omega, by dsimp only; omega⟩⟩
theorem rep_none {w : World} {M : Nat → Prop} {v : Value} (h : Rep w M (intc []) v) : ∃ x c, v = .slice x 0 c := by
  cases h with
  | nil k x c hm hx => exact ⟨x, c, rfl⟩
  | @list b off cap k l vs hc hm hMb hb hk hv hr => exact ⟨_, _, rfl⟩
set_option maxRecDepth 100000 in
set_option maxHeartbeats 4000000 in
theorem qCounts_nil {d1 d2 d3 al : Sx.D} (HE : FnOK Tryz.prog 29 [.agg [d1, d2, d3], .one al] (.tup [.one (intc []), .one (i64 0)])) : FnOK Tryz.prog 10 [.agg [d1, d2, d3], .one al] (.tup [.one (.list 2 []), .one (i64 0)]) := by
  refine fun w M vs hM hvs => .inl ⟨10, Tryz.call10 _ _, ?_⟩
  match vs, hvs with
  | [u, lv], ⟨⟨us, e, hus⟩, hlv, _⟩ =>
    subst e
    match us, hus with
    | [xa, xb, xc], ⟨ha, hb, hc, _⟩ =>
      have o1 := Rep.one ha
      have o2 := Rep.one hb
      have o3 := Rep.one hc
      have o4 := Rep.one hlv
      obtain ⟨W1, hW1⟩ : ∃ W1, W1 = w.alloc (.cells #[xa, xb, xc] 28) := ⟨_, rfl⟩
      have hB1 : Below w.heap.size w W1 := by rw [hW1]; exact (Below.refl _ _).alloc (Nat.le_refl _) _
      have hho := Holds.of_below (M := M) hB1
      have hid : ∀ b, b < w.heap.size → M b → M b := fun _ _ h => h
      have HC : Calls Tryz.prog 29 #[.agg #[xa, xb, xc], lv] W1 fun e w' => ∃ x cap, e = .returned (.tuple #[.slice x 0 cap, .int .i64 0]) ∧ Below w.heap.size w w' := by
        refine (calls_of_fnok HE (w := W1) (M := M) (vs := [.agg #[xa, xb, xc], lv]) (fun b hb => Nat.lt_of_lt_of_le (hM b hb) hB1.size) ⟨⟨[xa, xb, xc], rfl, ha.mono hho hid, hb.mono hho hid, hc.mono hho hid, trivial⟩, hlv.mono hho hid, trivial⟩ (Tryz.call29 _ _)).mono ?_
        rintro e w' ⟨v, rfl, ⟨us, rfl, hus⟩, hb⟩
        match us, hus with
        | [x, y], ⟨hx, hy, _⟩ =>
          obtain ⟨x, cap, rfl⟩ := rep_none hx
          obtain rfl := rep_i64 hy
          exact ⟨x, cap, rfl, hB1.trans (hb.mono hB1.size)⟩
      have hmm := @run_makeMap Tryz.prog
      clear HE ha hb hc hlv
      go_enter Tryz.func10, Tryz.ntmps10
      subst hW1
      go_wp2_with (go_at_call 29; refine HC.mono ?_; rintro e w2 ⟨x, cap, rfl, hB2⟩)
      refine wp_loop_rounds 1 ?_
      rw [rounds_succ]
      have hown := World.ownsMap_made w2 Tryz.prog 31 (plainElem (H := Unit) Tryz.prog 3)
      have cS := cntSorted_call hown cnt_nil (fun _ h => by cases h) (Nat.zero_le _)
      have hk : keysS [] = [] := by rfl
      rw [hk] at cS
      simp only [World.size_alloc] at cS
      go_wp2_with (first
        | (go_at_call 37; refine (cntKeys_call _ _).mono ?_; rintro e w3 ⟨rfl, rfl⟩)
        | (go_at_call 36; refine cS.mono ?_; rintro e w5 ⟨sv, rfl, hrow, hB5⟩; obtain ⟨sx, sc, rfl⟩ := owns_none hrow))
      refine wp_loop_rounds 1 ?_
      rw [rounds_succ]
      go_wp2
      go_ret2
      refine ⟨_, rfl, ⟨[_, _], rfl, .nil 2 none 0 (by omega) (fun _ => rfl), .v _ rfl (wfB_iff rfl), trivial⟩, ?_⟩
      exact hB2.trans (((((Below.refl _ w2).alloc (Nat.le_refl _) _).alloc (by simp) _).trans (hB5.mono (by omega))).mono hB2.size)
end Go.Proofs.YtnjgfhgpicmklaaGreat

namespace Go.Proofs.YtnjgfhgpicmklaaGreat
open Go Go.RowKit Go.Sort Sx
def runs : Md → List Ak → Md × List Rp
  | m, [] => (m, [])
  | m, a :: l => ((runs (askV m a).1 l).1, (askV m a).2 :: (runs (askV m a).1 l).2)
theorem runs_append : ∀ (m : Md) (l r : List Ak), runs m (l ++ r) = ((runs (runs m l).1 r).1, (runs m l).2 ++ (runs (runs m l).1 r).2)
  | m, [], r => rfl
  | m, a :: l, r => by
    simp only [List.cons_append, runs, runs_append (askV m a).1 l r]
theorem runs_snoc (m : Md) (l : List Ak) (a : Ak) : runs m (l ++ [a]) = ((askV (runs m l).1 a).1, (runs m l).2 ++ [(askV (runs m l).1 a).2]) := by
  rw [runs_append]; rfl
theorem runs_len : ∀ (m : Md) (l : List Ak), (runs m l).2.length = l.length
  | _, [] => rfl
  | m, a :: l => by simp only [runs, List.length_cons, runs_len]
theorem runs_succ {m : Md} {l : List Ak} {i : Nat} (h : i < l.length) : runs m (l.take (i + 1)) = ((askV (runs m (l.take i)).1 l[i]).1, (runs m (l.take i)).2 ++ [(askV (runs m (l.take i)).1 l[i]).2]) := by
  rw [List.take_succ_eq_append_getElem h, runs_snoc]
def runV (m : Md) (l : List Ak) : Md × List Rp × Int := if mchk m = 0 then (if 120 < l.length then (md0, [], 4) else ((runs m l).1, (runs m l).2, 0)) else (md0, [], 8)
abbrev retR (x : Md × List Rp × Int) : DV := .tup [x.1.dc, .one (rps x.2.1), .one (i64 x.2.2)]
theorem oRun_fn (m : Md) (l : List Ak) : FnOK Tryz.prog 26 [m.dc, .one (aks l)] (retR (runV m l)) := by
  have H := oCheck_fn m
  unfold runV
  by_cases h : mchk m = 0
  · rw [if_pos h]
    rw [h] at H
    obtain ⟨g1, g2⟩ := mchk_ok h
    obtain ⟨k1, k2, k3⟩ := fchk_ok g2
    have HC := ok_of_own (clonePt_own (m.l.map Pt.c) (by simp; omega))
    by_cases h1 : 120 < l.length
    · rw [if_pos h1]
      refine fn_ok (by kernel_rfl) (ty_okK [9, 48] [] [] []) Tryz.func26 rfl (fun _ _ => Tryz.call26 _ _) rfl ?_
      intro hw
      simp only [WDCs, WDC, WDs] at hw
      have w1 := wd_aks hw.2.1
      clear hw
      repeat' ((conv => whnf); first | (with_reducible first | refine br_t ?_ | refine br_f ?_ | refine za ?_ | refine zg ?_ | refine zo ?_) | rw [List.length_map] | refine zp ?_ | refine zq ?_ | (with_reducible first | refine bc (fun h => ?_) (fun h => ?_) | refine zt ?_ | refine zf ?_ | refine br_i (fun h => ?_) (fun h => ?_)) | refine zg ?_ | refine zi ?_ | refine zb ?_ | refine zl ?_)
      all_goals conv => whnf
      all_goals rfl
    · rw [if_neg h1]
      refine fn_ok (by kernel_rfl) (ty_okK [9, 48] [] [] []) Tryz.func26 rfl (fun _ _ => Tryz.call26 _ _) rfl ?_
      intro hw
      clear hw
      repeat' ((conv => whnf); first | (with_reducible first | refine br_t ?_ | refine br_f ?_ | refine za ?_ | refine zg ?_ | refine zo ?_) | rw [List.length_map] | refine zp ?_ | refine zq ?_ | (with_reducible first | refine bc (fun h => ?_) (fun h => ?_) | refine zt ?_ | refine zf ?_ | refine br_i (fun h => ?_) (fun h => ?_)) | refine zg ?_ | refine zi ?_ | refine zb ?_ | refine zl ?_)
      refine loop_J (by kernel_rfl) (ty_okK [9, 48] [] [] []) (σ := Nat × Md × List Rp) (fun s => [(34, sV (.int .i64 s.1)), (9, .c (.at (.osl 9 0)))]) (fun s => [(8, .own [.d (i64 s.2.1.n), .d (i64 s.2.1.d), .d (pts s.2.1.l)]), (9, .row 6 (s.2.2.map Rp.c) 0)]) (fun s => s.1 ≤ l.length ∧ mchk s.2.1 = 0 ∧ runs m (l.take s.1) = s.2) (fun s => l.length - s.1) (0, m, []) ⟨by omega, h, rfl⟩ ?_ ?_
      · (conv => whnf); exact zent
      rintro ⟨i, u, o⟩ ⟨hi, hu, hI⟩
      dsimp only at hi hu hI
      have hol : (o.map Rp.c).length = o.length := List.length_map ..
      have hoi : o.length = (l.take i).length := by have := runs_len m (l.take i); rw [hI] at this; exact this
      rw [List.length_take] at hoi
      rcases Nat.lt_or_ge i l.length with hlt | hge
      · have hel := aks_get hlt
        have HA := oask_fn hu l[i]
        have hn := runs_succ (m := m) hlt
        have hv := askV_ok hu l[i]
        rw [hI] at hn
        dsimp only at hn
        generalize askV u l[i] = x at *
        obtain ⟨y, r⟩ := x
        dsimp only at hn hv
        simp only [retA] at HA
        have hs : o.map Rp.c ++ [[i64 r.e, i64 r.i, i64 r.j, i64 r.n, i64 r.d, mts r.ms]] = (o ++ [r]).map Rp.c := by rw [List.map_append]; rfl
        generalize l[i] = a at *
        repeat' ((conv => whnf); first | (with_reducible first | refine br_t ?_ | refine br_f ?_ | refine za ?_ | refine zg ?_ | refine zo ?_) | rw [hol] | rw [List.length_map] | refine zp ?_ | refine zq ?_ | (with_reducible first | refine bc (fun h => ?_) (fun h => ?_) | refine zt ?_ | refine zf ?_ | refine br_i (fun h => ?_) (fun h => ?_)) | refine zg ?_ | refine zi ?_ | refine zb ?_ | refine zl ?_)
        all_goals conv => whnf
        refine ⟨(i + 1, y, o ++ [r]), ⟨by omega, hv, hn⟩, ?_, by simp only; omega⟩
        (conv => whnf); refine ⟨by repeat' (first | with_reducible exact zE0 | with_reducible refine zE1 ?_ ?_ | rfl | assumption | ((exact congrArg (fun x => some (Blk.row 6 x 0)) hs)) | exact zi1 | exact zb1), by repeat' (first | with_reducible exact zH0 | with_reducible refine zH1 ?_ ?_ | rfl | assumption | ((exact congrArg (fun x => some (Blk.row 6 x 0)) hs))), rfl⟩
      · obtain rfl : i = l.length := by omega
        rw [List.take_of_length_le (Nat.le_refl _)] at hI
        rw [hI]
        repeat' ((conv => whnf); first | (with_reducible first | refine br_t ?_ | refine br_f ?_ | refine za ?_ | refine zg ?_ | refine zo ?_) | rw [hol] | rw [List.length_map] | refine zp ?_ | refine zq ?_ | (with_reducible first | refine bc (fun h => ?_) (fun h => ?_) | refine zt ?_ | refine zf ?_ | refine br_i (fun h => ?_) (fun h => ?_)) | refine zg ?_ | refine zi ?_ | refine zb ?_ | refine zl ?_)
        all_goals conv => whnf
        all_goals rfl
  · rw [if_neg h]
    have h8 := (mchk_08 m).resolve_left h
    rw [h8] at H
    refine fn_ok (by kernel_rfl) (ty_okK [9, 48] [] [] []) Tryz.func26 rfl (fun _ _ => Tryz.call26 _ _) rfl ?_
    intro hw
    clear hw
    exact zw
end Go.Proofs.YtnjgfhgpicmklaaGreat

namespace Go.Proofs.YtnjgfhgpicmklaaGreat
open Go.RowKit Go.Sort Sx
def errsV (m : Md) (l : List Ak) : List Int := (runs m l).2.map (·.e)
theorem askV_err {m : Md} {a : Ak} (h : (askV m a).2.e ≠ 0) : (askV m a).1 = m := by
  unfold askV at h ⊢
  split
  · rename_i c0
    rw [if_pos c0] at h
    split
    · rename_i c1
      rw [if_pos c1] at h
      split
      · rename_i c; rw [if_pos c] at h; exact absurd rfl h
      · rfl
    · rename_i c1
      rw [if_neg c1] at h
      split
      · rename_i c2
        rw [if_pos c2] at h
        split
        · rename_i c; rw [if_pos c] at h; exact absurd rfl h
        · rfl
      · rename_i c2
        rw [if_neg c2] at h
        split
        · rename_i c3
          rw [if_pos c3] at h
          split
          · rename_i c; rw [if_pos c] at h; exact absurd rfl h
          · rfl
        · rename_i c3
          rw [if_neg c3] at h
          split
          · rename_i c4
            rw [if_pos c4] at h
            split
            · rename_i c5
              rw [if_pos c5] at h
              split
              · rfl
              · rename_i c; rw [if_neg c] at h; exact absurd rfl h
            · rfl
          · split
            · split <;> rfl
            · rfl
  · rfl
def kept : Md → List Ak → List Ak
  | _, [] => []
  | m, a :: l => if (askV m a).2.e = 0 then a :: kept (askV m a).1 l else kept (askV m a).1 l
theorem runs_kept : ∀ (m : Md) (l : List Ak), runs m (kept m l) = ((runs m l).1, (runs m l).2.filter fun r => decide (r.e = 0))
  | _, [] => rfl
  | m, a :: l => by
    have ih := runs_kept (askV m a).1 l
    rw [kept]
    by_cases h : (askV m a).2.e = 0
    · rw [if_pos h, runs, ih, runs, List.filter_cons_of_pos (by simpa using h)]
    · rw [if_neg h, runs, List.filter_cons_of_neg (by simpa using h)]
      rw [askV_err h] at ih ⊢
      rw [ih]
theorem kept_kept : ∀ (m : Md) (l : List Ak), kept m (kept m l) = kept m l
  | _, [] => rfl
  | m, a :: l => by
    have ih := kept_kept (askV m a).1 l
    rw [kept]
    by_cases h : (askV m a).2.e = 0
    · rw [if_pos h, kept, if_pos h, ih]
    · rw [if_neg h]
      rw [askV_err h] at ih ⊢
      exact ih
theorem kept_len : ∀ (m : Md) (l : List Ak), (kept m l).length ≤ l.length
  | _, [] => Nat.le_refl _
  | m, a :: l => by
    have ih := kept_len (askV m a).1 l
    rw [kept]
    split <;> simp only [List.length_cons] <;> omega
theorem errs_cons (m : Md) (a : Ak) (l : List Ak) : errsV m (a :: l) = (askV m a).2.e :: errsV (askV m a).1 l := rfl
theorem errs_len (m : Md) (l : List Ak) : (errsV m l).length = l.length := by unfold errsV; rw [List.length_map, runs_len]
def keepE : List Ak → List Int → List Ak
  | a :: l, e :: es => if e = 0 then a :: keepE l es else keepE l es
  | _, _ => []
theorem keepE_kept : ∀ (m : Md) (l : List Ak), keepE l (errsV m l) = kept m l
  | _, [] => rfl
  | m, a :: l => by rw [errs_cons, keepE, kept, keepE_kept]
theorem keepE_lt {l : List Ak} {es : List Int} {i : Nat} (h1 : i < l.length) (h2 : i < es.length) : keepE (l.drop i) (es.drop i) = (if es[i] = 0 then [l[i]] else []) ++ keepE (l.drop (i + 1)) (es.drop (i + 1)) := by
  rw [List.drop_eq_getElem_cons h1, List.drop_eq_getElem_cons h2, keepE]
  split <;> rfl
theorem keepE_ge {l : List Ak} {es : List Int} {i : Nat} (h1 : l.length ≤ i) : keepE (l.drop i) (es.drop i) = [] := by
  rw [List.drop_of_length_le h1]; simp [keepE]
def fst0 : List Int → Option Nat
  | [] => none
  | e :: l => if e = 0 then (fst0 l).map (· + 1) else some 0
def firstE (l : List Int) : Int × Int := match fst0 l with | none => (0, 6) | some i => ((i : Int), 0)
theorem fst0_none {l : List Int} : fst0 l = none ↔ ∀ e ∈ l, e = 0 := by
  induction l with
  | nil => simp [fst0]
  | cons e l ih =>
    rw [fst0]
    by_cases h : e = 0
    · rw [if_pos h, Option.map_eq_none_iff, ih]; simp [h]
    · rw [if_neg h]; simp [h]
theorem fst0_some {l : List Int} {i : Nat} : fst0 l = some i ↔ ∃ h : i < l.length, l[i] ≠ 0 ∧ ∀ j (hj : j < l.length), j < i → l[j] = 0 := by
  induction l generalizing i with
  | nil => simp [fst0]
  | cons e l ih =>
    rw [fst0]
    by_cases h : e = 0
    · rw [if_pos h, Option.map_eq_some_iff]
      constructor
      · rintro ⟨k, hk, rfl⟩
        obtain ⟨h1, h2, h3⟩ := ih.1 hk
        refine ⟨by simpa using h1, by simpa using h2, fun j hj hlt => ?_⟩
        cases j with
        | zero => exact h
        | succ j => exact h3 j (by simpa using hj) (by omega)
      · rintro ⟨h1, h2, h3⟩
        cases i with
        | zero => exact absurd h h2
        | succ i => exact ⟨i, ih.2 ⟨by simpa using h1, by simpa using h2, fun j hj hlt => h3 (j + 1) (by simpa using hj) (by omega)⟩, rfl⟩
    · rw [if_neg h]
      constructor
      · intro e'
        injection e' with e'
        subst e'
        exact ⟨by simp, h, fun j _ hj => by omega⟩
      · rintro ⟨h1, h2, h3⟩
        cases i with
        | zero => rfl
        | succ i => exact absurd (h3 0 (by simp) (by omega)) h
def lstF : List Pt → Int → Int
  | [], i => i
  | p :: l, i => if p.id = i then lstF l (i + 1) else i
theorem lstF_lt {l : List Pt} {i : Nat} (h : i < l.length) : lstF (l.drop i) i = if l[i].id = i then lstF (l.drop (i + 1)) ((i + 1 : Nat) : Int) else i := by
  rw [List.drop_eq_getElem_cons h, lstF]; rfl
theorem lstF_ge {l : List Pt} {i : Nat} (h : l.length ≤ i) : lstF (l.drop i) i = i := by
  rw [List.drop_of_length_le h, lstF]
theorem lstF_ok {l : List Pt} (hs : incr l = true) (h0 : ∀ p ∈ l, 0 ≤ p.id) : ∀ (k i : Nat), k = l.length - i → i ≤ l.length → (∀ j (h : j < l.length), j < i → l[j].id = j) →
    ∃ n : Nat, lstF (l.drop i) i = n ∧ i ≤ n ∧ n ≤ l.length ∧ (∀ j : Nat, j < n → has l j = true) ∧ has l n = false := by
  intro k
  have hh : ∀ j (h : j < l.length), has l l[j].id = true := fun j h => List.any_eq_true.2 ⟨l[j], List.getElem_mem h, by simp⟩
  induction k with
  | zero =>
    intro i hk hi h
    obtain rfl : i = l.length := by omega
    refine ⟨l.length, lstF_ge (Nat.le_refl _), Nat.le_refl _, Nat.le_refl _, fun j hj => ?_, ?_⟩
    · rw [← h j hj hj]; exact hh j hj
    · rw [Bool.eq_false_iff]
      intro hc
      obtain ⟨p, hp, e⟩ := List.any_eq_true.1 hc
      obtain ⟨j, hj, rfl⟩ := List.getElem_of_mem hp
      have := h j hj hj
      have e : l[j].id = l.length := by simpa using e
      omega
  | succ k ih =>
    intro i hk hi h
    have hlt : i < l.length := by omega
    rw [lstF_lt hlt]
    by_cases c : l[i].id = i
    · rw [if_pos c]
      obtain ⟨n, e, h1, h2, h3⟩ := ih (i + 1) (by omega) hlt (fun j hj hji => by
        rcases Nat.lt_or_ge j i with g | g
        · exact h j hj g
        · obtain rfl : j = i := by omega
          exact c)
      exact ⟨n, e, by omega, h2, h3⟩
    · rw [if_neg c]
      refine ⟨i, rfl, Nat.le_refl _, hi, fun j hj => ?_, ?_⟩
      · rw [← h j (by omega) hj]; exact hh j (by omega)
      · rw [Bool.eq_false_iff]
        intro hc
        obtain ⟨p, hp, e⟩ := List.any_eq_true.1 hc
        obtain ⟨j, hj, rfl⟩ := List.getElem_of_mem hp
        have e : l[j].id = i := by simpa using e
        rcases Nat.lt_trichotomy j i with g | g | g
        · have := h j hj g; omega
        · subst g; exact c e
        · have h1 := incr_lt hs j i hj g
          have h2 := h0 _ (List.getElem_mem hlt)
          rcases Nat.eq_zero_or_pos i with z | z
          · omega
          · have h3 := h (i - 1) (by omega) (by omega)
            have h4 := incr_lt hs i (i - 1) hlt (by omega)
            omega
def freeV (m : Md) : Int × Int := if mchk m = 0 then (if m.l.length = 64 then (0, 18) else (lstF m.l 0, 0)) else (0, 8)
def errV (m : Md) (a : Ak) : Int × Int := if mchk m = 0 then ((askV m a).2.e, 0) else (0, 8)
def errorsV (m : Md) (l : List Ak) : List Int × Int := if mchk m = 0 then (if 120 < l.length then ([], 4) else (errsV m l, 0)) else ([], 8)
def ofirstV (m : Md) (l : List Ak) : Int × Int := if mchk m = 0 then (if 120 < l.length then (0, 4) else firstE (errsV m l)) else (0, 8)
def keptV (m : Md) (l : List Ak) : List Ak × Int := if mchk m = 0 then (if 120 < l.length then ([], 4) else (kept m l, 0)) else ([], 8)
theorem askV_rng {m : Md} (hm : mchk m = 0) (a : Ak) : (askV m a).2.e ∈ ([0, 2, 4, 6, 8, 12, 14, 18, 32, 42, 44] : List Int) := by
  obtain ⟨g1, g2⟩ := mchk_ok hm
  obtain ⟨t1, _⟩ := askd_ok g1
  have f := fchk_cases
  have ck : ∀ p : Pt, p.chk = 0 ∨ p.chk = 8 := Pt.chk_08
  unfold askV
  split
  · split
    · split
      · simp [rp0]
      · show (putV m.l a.p).2 ∈ _
        unfold putV
        rw [if_pos g2]
        split
        · split
          · simp
          · split <;> simp
        · simp
    · split
      · split
        · simp [rp0]
        · show (takeV m.l a.id).2 ∈ _
          unfold takeV
          rw [if_pos g2]
          split <;> simp
      · split
        · split
          · simp [rp0]
          · show (changeV m.l a.p).2 ∈ _
            unfold changeV
            rw [if_pos g2]
            split
            · split <;> simp
            · simp
        · split
          · split
            · split <;> simp [rpE]
            · show askd a.n a.d ∈ _
              unfold askd
              split
              · rcases chk_08 a.n a.d with h | h <;> rw [h] <;> simp
              · split <;> simp
          · split
            · split <;> simp [rpE]
            · show (closV m.l m.n m.d).2.2.2.2 ∈ _
              unfold closV
              rw [if_pos g2, if_pos g1]
              split <;> simp
  · simp [rpE]
end Go.Proofs.YtnjgfhgpicmklaaGreat

namespace Go.Proofs.YtnjgfhgpicmklaaGreat
open Go.RowKit Go.Sort Sx
structure Pa where
  n : Int
  d : Int
  ms : List Md
  deriving DecidableEq, Inhabited
abbrev mos (l : List Md) : D := .list 3 (l.map Md.c)
abbrev Pa.dc (p : Pa) : DC := .agg [i64 p.n, i64 p.d, mos p.ms]
theorem askd_ok' {n d : Int} (h : askd n d = 0) : chk n d = 0 ∧ -1073741824 ≤ n ∧ n ≤ 1073741824 ∧ 1 ≤ d ∧ d ≤ 1024 := by
  unfold askd at h
  split at h
  · rename_i h1; exact absurd h h1
  · rename_i h1
    have h1 : chk n d = 0 := by omega
    have := (chk_iff n d).1 h1
    split at h
    · omega
    · exact ⟨h1, by omega⟩
theorem cmp_chk {p q r t : Int} (h1 : chk p q = 0) (h2 : chk r t = 0) : FnOK Tryz.prog 84 (rat2 p q r t) (.tup [.one (i64 (cmpN (p * t) (r * q))), .one (i64 0)]) := by
  have := cmp_fn p q r t
  unfold cmpV bth at this
  rw [if_pos (by rw [h1, if_pos rfl, h2])] at this
  exact this
theorem askd_chk {n d : Int} (h : askd n d = 0) : chk n d = 0 := (askd_ok' h).1
end Go.Proofs.YtnjgfhgpicmklaaGreat
