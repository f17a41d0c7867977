import Derived.Test.YtnjgfhgpicmklaaGLDFindsAM
import Derived.Test.YtnjgfhgpicmklaaGLDFindsAJ
import Derived.Lib.AppendZeros
set_option linter.all false
namespace Go.Proofs.Ytnjgfhgpicmklaa
open Go Go.RowKit Go.Sort Sx
theorem dboth_fn (m n : Md) : FnOK Try.prog 34 [m.dc, n.dc] (ret1 (bothV m n)) := by
  have H1 := oCheck_fn m
  have H2 := oCheck_fn n
  unfold bothV
  by_cases h : mchk m = 0
  · rw [if_pos h]
    rw [h] at H1
    generalize mchk n = z at *
    refine fn_ok (by kernel_rfl) ty_ok Try.func34 rfl (fun _ _ => Try.call34 _ _) rfl ?_
    intro hw
    clear hw
    exact zw
  · rw [if_neg h]
    have h8 := (mchk_08 m).resolve_left h
    rw [h8] at H1
    refine fn_ok (by kernel_rfl) ty_ok Try.func34 rfl (fun _ _ => Try.call34 _ _) rfl ?_
    intro hw
    clear hw
    exact zw
theorem rdBoth_fn (m n : Md) : FnOK Try.prog 36 [m.dc, n.dc] (ret1 (bothV m n)) := by
  have H1 := roCheck_fn m
  have H2 := roCheck_fn n
  unfold bothV
  by_cases h : mchk m = 0
  · rw [if_pos h]
    rw [h] at H1
    generalize mchk n = z at *
    refine fn_ok (by kernel_rfl) ty_ok Try.func36 rfl (fun _ _ => Try.call36 _ _) rfl ?_
    intro hw
    clear hw
    exact zw
  · rw [if_neg h]
    have h8 := (mchk_08 m).resolve_left h
    rw [h8] at H1
    refine fn_ok (by kernel_rfl) ty_ok Try.func36 rfl (fun _ _ => Try.call36 _ _) rfl ?_
    intro hw
    clear hw
    exact zw
theorem DLgreat_fn (m n : Md) : FnOK Try.prog 6 [m.dc, n.dc] (.c (.one (bol (great m.l || great n.l)))) := by
  have H1 := rfGreat_fn m.l
  have H2 := rfGreat_fn n.l
  generalize great n.l = z at *
  cases h : great m.l
  all_goals
    rw [h] at H1
    refine fn_ok (by kernel_rfl) ty_ok Try.func6 rfl (fun _ _ => Try.call6 _ _) rfl ?_
    intro hw
    clear hw
    exact zw
end Go.Proofs.Ytnjgfhgpicmklaa

namespace Go.Proofs.Ytnjgfhgpicmklaa
open Go Go.RowKit
namespace Sx
variable {P : Program} {sz : Nat} {E : Env} {H : Hp}
def kpE (ks : List Nat) : List Nat → Env → Env
  | _, [] => []
  | D, (t, x) :: r => match memB t D with
    | true => kpE ks D r
    | false => match memB t ks with | true => (t, x) :: kpE ks (t :: D) r | false => kpE ks (t :: D) r
theorem look_kpE {ks : List Nat} : ∀ {E : Env} {D : List Nat} {t : Nat} {x : SV}, look (kpE ks D E) t = some x → t ∉ D ∧ look E t = some x
  | [], D, t, x, h => by simp [kpE, look] at h
  | (u, y) :: r, D, t, x, h => by
    unfold kpE at h
    rw [look_cons]
    split at h
    · rename_i hm
      obtain ⟨h1, h2⟩ := look_kpE h
      exact ⟨h1, by rw [if_neg (by rintro rfl; exact h1 (memB_iff.1 hm))]; exact h2⟩
    · rename_i hm
      have hm' : u ∉ D := fun h' => by rw [memB_iff.2 h'] at hm; cases hm
      split at h
      · rw [look_cons] at h
        split at h
        · rename_i e
          injection h with h
          subst e h
          exact ⟨hm', by rw [if_pos rfl]⟩
        · obtain ⟨h1, h2⟩ := look_kpE h
          refine ⟨fun h' => h1 (List.mem_cons_of_mem _ h'), ?_⟩
          rename_i e
          rw [if_neg e]; exact h2
      · obtain ⟨h1, h2⟩ := look_kpE h
        exact ⟨fun h' => h1 (List.mem_cons_of_mem _ h'), by rw [if_neg (by rintro rfl; exact h1 (List.mem_cons_self ..))]; exact h2⟩
theorem loop_keep (ks : List Nat) {dm : Bool} {body : Code} {k : Exit → Env → Hp → Prop} (h : frcEnv (kpE ks [] E) fun E1 => LoopP P sz dm body E1 H k) : LoopP P sz dm body E H k :=
  ⟨fun C M0 w0 ρ a w Q hdm R hQ => ((frcEnv_iff _ _).1 h).run C M0 w0 ρ a w Q hdm (R.same (fun t x hx => (look_kpE hx).2) fun _ => rfl) hQ⟩
end Sx
end Go.Proofs.Ytnjgfhgpicmklaa

namespace Go.Proofs.Ytnjgfhgpicmklaa
open Go Go.RowKit Go.Sort Sx
set_option maxHeartbeats 4000000 in
set_option maxRecDepth 100000 in
theorem growAk_run (n : Nat) (w : World) (h0 : 0 < n) (h1 : n ≤ 1000000) : Calls Try.prog 59 #[.slice none 0 0, .int .i64 n] w fun e w' => ∃ (G : Nat) (row : List Value), e = .returned (.slice (some ⟨w.heap.size, 0, none⟩) 0 G) ∧ G ≤ 9223372036854775807 ∧ Below w.heap.size w w' ∧ w.heap.size < w'.heap.size ∧ row.length = G * 7 ∧ CellsAt w' w.heap.size row := by
  obtain ⟨e, he, hsz, _, _, ti, z, hi0, hsz0, hz0, hzs, _, hby⟩ := (ty_ok 47 (.sl 7 true [.v (.int .u8 0), .v (.int .i64 0), .v (.int .i64 0), .v (.int .i64 0), .v (.int .i64 0), .v (.int .i64 0), .v (.int .i64 0)]) rfl).2.2.2
  have hee : e = 60 := by
    have := he.symm.trans Try.underlying47
    injection this with this; injection this
  subst hee
  have h48 : n * ti.bytes ≤ 281474976710656 := by
    have : n * ti.bytes ≤ 1000000 * 65536 := Nat.mul_le_mul h1 hby
    omega
  have hrz := fun ty => Lib.run_append_nil_zeros (P := Try.prog) w 47 3 ty 60 ti z .i64 .i64 Try.underlying47 Try.underlying3 hi0 hz0 n h0 (by omega) (by omega) h48
  have hG : n ≤ grownCap w n 0 60 := grownCap_ge w _ _ _
  have hG63 : grownCap w n 0 60 ≤ 9223372036854775807 := by
    have := grownCap_le_maxLen w n 0 60 (by unfold maxLen; omega)
    unfold maxLen at this
    omega
  generalize grownCap w n 0 60 = G at *
  obtain ⟨ROW, hROW⟩ : ∃ ROW : Array Value, ROW = Builtin.zeroCells z.cells n ++ Builtin.zeroCells z.cells (G - n) := ⟨_, rfl⟩
  rw [← hROW] at hrz
  have hRl : ROW.toList.length = G * 7 := by
    rw [hROW]
    simp only [Array.toList_append, List.length_append, Array.length_toList, size_zeroCells, hzs]
    omega
  obtain ⟨W1, hW1⟩ : ∃ W1, W1 = w.drew.alloc (.cells ROW 60) := ⟨_, rfl⟩
  rw [← hW1] at hrz
  have c0 : CellsAt W1 w.heap.size ROW.toList := ⟨60, by rw [hW1]; exact (heap_alloc_new w.drew _)⟩
  have hB1 : Below w.heap.size w W1 := by rw [hW1]; exact below_drew_alloc w _
  have hs1 : w.heap.size < W1.heap.size := by rw [hW1]; simp
  have FIN : Hid (Below w.heap.size w W1 ∧ w.heap.size < W1.heap.size ∧ CellsAt W1 w.heap.size ROW.toList) := Lib.hid ⟨hB1, hs1, c0⟩
  have hw1 : IntKind.i64.wrap (n : Int) = (n : Int) := by rw [IntKind.wrap_i64]; omega
  have hp : (0 : Int) < (n : Int) := by omega
  have hn : ¬ ((n : Int) < 0) := by omega
  have mixed : Try.prog.follows .mixedOrders = true := by kernel_rfl
  clear hROW hW1 hB1 hs1 c0
  go_enter Try.func59, Try.ntmps59
  go_wp2_with (at_builtin; refine Lib.wpList_append_run _ rfl _ _ _ _ rfl _ _ rfl rfl _ _ (hrz _) ?_)
  go_ret
  exact ⟨G, rfl, hG63, FIN.out.1, FIN.out.2.1, ROW.toList, hRl, FIN.out.2.2⟩
set_option maxHeartbeats 4000000 in
set_option maxRecDepth 100000 in
theorem growAk_run0 (w : World) : Calls Try.prog 59 #[.slice none 0 0, .int .i64 0] w fun e w' => e = .returned (.slice none 0 0) ∧ w' = w := by
  have mixed : Try.prog.follows .mixedOrders = true := by kernel_rfl
  go_enter Try.func59, Try.ntmps59
  go_wp2
  go_ret
  exact ⟨rfl, rfl⟩
theorem growAk_own (n : Nat) (h1 : n ≤ 1000000) : FnOwn Try.prog 59 [.one (.v (.slice none 0 0)), .one (i64 n)] (ownL 7 []) := by
  intro w M vs hM hd
  match vs, hd with
  | [v1, v2], hd =>
    have k1 : Rep w M (.v (.slice none 0 0)) v1 := hd.1
    have k2 : Rep w M (.v (.int .i64 n)) v2 := hd.2.1
    cases k1
    cases k2
    rcases Nat.eq_zero_or_pos n with rfl | h0
    · refine ⟨59, Try.call59 _ _, (growAk_run0 w).mono ?_⟩
      rintro e w' ⟨rfl, rfl⟩
      exact ⟨_, ⟨false, 0, 0, 0, 0⟩, rfl, Below.refl _ _, rfl, rfl, fun h => absurd h (Nat.lt_irrefl _), ⟨rfl, rfl, Nat.le_refl _, fun _ => ⟨none, rfl, fun h => absurd h (Nat.lt_irrefl _)⟩⟩, ⟨by simp, rfl, fun _ => rfl, rfl, rfl⟩, fun h => by simp [Blk.real] at h⟩
    · refine ⟨59, Try.call59 _ _, (growAk_run n w h0 h1).mono ?_⟩
      rintro e w' ⟨G, row, rfl, hG, hB, hs, hl, hc⟩
      exact ⟨_, ⟨false, w.heap.size, G, 0, 0⟩, rfl, hB, rfl, rfl, fun _ => ⟨Nat.le_refl _, hs⟩, ⟨rfl, rfl, Nat.le_refl _, fun _ => ⟨_, rfl, fun _ => rfl⟩⟩, ⟨by simp, rfl, fun _ => rfl, rfl, rfl⟩, fun _ => ⟨row, hc, Nat.zero_le _, hG, hl, [], row, rfl, trivial⟩⟩
abbrev lol (L : List (List (List D))) : D := .list 1 (L.map fun x => [.list 7 x])
theorem lol_get {L : List (List (List D))} {i : Nat} (h : i < L.length) : (L.map fun x => [D.list 7 x])[((i : Nat) : Int).toNat]? = some [.list 7 L[i]] := by
  rw [Int.toNat_natCast, List.getElem?_map, List.getElem?_eq_getElem h]; rfl
theorem flat_succ {α : Type} {L : List (List α)} {i : Nat} (h : i < L.length) : (L.take (i + 1)).flatten = (L.take i).flatten ++ L[i] := by
  rw [List.take_succ_eq_append_getElem h, List.flatten_append]; simp
theorem flat_le {α : Type} (L : List (List α)) (i : Nat) : (L.take i).flatten.length ≤ L.flatten.length := by
  conv => rhs; rw [← List.take_append_drop i L, List.flatten_append, List.length_append]
  omega
set_option maxRecDepth 100000 in
set_option maxHeartbeats 4000000 in
theorem catAk_own (L : List (List (List D))) (h1 : L.flatten.length ≤ 1000000) (h2 : L.length ≤ 1000000) : FnOwn Try.prog 40 [.one (lol L)] (ownL 7 L.flatten) := by
  have hL : (L.map fun x => [D.list 7 x]).length = L.length := List.length_map ..
  refine fn_own (by kernel_rfl) (ty_okK [24, 33] [] [] []) Try.func40 rfl (fun _ _ => Try.call40 _ _) rfl ?_
  intro hw
  clear hw
  repeat' ((conv => whnf); first | (with_reducible first | refine br_t ?_ | refine br_f ?_ | refine za ?_ | refine zg ?_ | refine zo ?_) | rw [hL] | refine zp ?_ | refine zq ?_ | (with_reducible first | refine bc (fun h => ?_) (fun h => ?_) | refine zt ?_ | refine zf ?_ | refine br_i (fun h => ?_) (fun h => ?_)) | refine zg ?_ | refine zi ?_ | refine zb ?_ | refine zl ?_)
  refine loop_J (by kernel_rfl) (ty_okK [24, 33] [] [] []) (σ := Nat) (fun i => [(11, sV (.int .i64 i)), (3, sV (.int .i64 ((L.take i).flatten.length : Nat)))]) (fun _ => []) (fun i => i ≤ L.length) (fun i => L.length - i) 0 (Nat.zero_le _) ?_ ?_
  · (conv => whnf); exact zent
  intro i hi
  rcases Nat.lt_or_ge i L.length with hlt | hge
  · have hel := lol_get hlt
    have e1 := congrArg List.length (flat_succ hlt)
    rw [List.length_append] at e1
    have e2 := flat_le L (i + 1)
    generalize (L.take i).flatten.length = c at *
    obtain ⟨d, hdd⟩ : ∃ d, d = (L.take (i + 1)).flatten.length := ⟨_, rfl⟩
    rw [← hdd] at e1 e2
    have hwr : IntKind.i64.wrap ((c : Int) + (L[i].length : Int)) = (d : Int) := by rw [IntWalk.i64_in _ (by omega)]; omega
    generalize L[i] = x at *
    repeat' ((conv => whnf); first | (with_reducible first | refine br_t ?_ | refine br_f ?_ | refine za ?_ | refine zg ?_ | refine zo ?_) | rw [hL] | rw [hwr] | refine zp ?_ | refine zq ?_ | (with_reducible first | refine bc (fun h => ?_) (fun h => ?_) | refine zt ?_ | refine zf ?_ | refine br_i (fun h => ?_) (fun h => ?_)) | refine zg ?_ | refine zi ?_ | refine zb ?_ | refine zl ?_)
    all_goals conv => whnf
    refine ⟨i + 1, by omega, ?_, by omega⟩
    (conv => whnf); exact zent
  · obtain rfl : i = L.length := by omega
    have HG := growAk_own L.flatten.length h1
    have eF : (L.take L.length).flatten = L.flatten := by rw [List.take_length]
    rw [eF]
    repeat' ((conv => whnf); first | (with_reducible first | refine br_t ?_ | refine br_f ?_ | refine za ?_ | refine zg ?_ | refine zo ?_) | rw [hL] | refine zp ?_ | refine zq ?_ | (with_reducible first | refine bc (fun h => ?_) (fun h => ?_) | refine zt ?_ | refine zf ?_ | refine br_i (fun h => ?_) (fun h => ?_)) | refine zg ?_ | refine zi ?_ | refine zb ?_ | refine zl ?_)
    refine loop_keep [2, 6, 25, 26, 27] ?_
    conv => whnf
    refine loop_J (by kernel_rfl) (ty_okK [24, 33] [] [] []) (σ := Nat) (fun i => [(27, sV (.int .i64 i)), (6, .c (.at (.osl 24 0)))]) (fun i => [(24, .row 7 (L.take i).flatten 0)]) (fun i => i ≤ L.length) (fun i => L.length - i) 0 (Nat.zero_le _) ?_ ?_
    · (conv => whnf); exact zent
    intro i hi
    rcases Nat.lt_or_ge i L.length with hlt | hge
    · have hel := lol_get hlt
      have hs := (flat_succ hlt).symm
      have e1 := congrArg List.length hs
      rw [List.length_append] at e1
      have e2 := flat_le L (i + 1)
      generalize (L.take i).flatten = c at *
      generalize L[i] = x at *
      repeat' ((conv => whnf); first | (with_reducible first | refine br_t ?_ | refine br_f ?_ | refine za ?_ | refine zg ?_ | refine zo ?_) | rw [hL] | refine zp ?_ | refine zq ?_ | (with_reducible first | refine bc (fun h => ?_) (fun h => ?_) | refine zt ?_ | refine zf ?_ | refine br_i (fun h => ?_) (fun h => ?_)) | refine zg ?_ | refine zi ?_ | refine zb ?_ | refine zl ?_)
      all_goals conv => whnf
      refine ⟨i + 1, by omega, ?_, by omega⟩
      (conv => whnf); refine ⟨by repeat' (first | with_reducible exact zE0 | with_reducible refine zE1 ?_ ?_ | rfl | assumption | ((exact congrArg (fun x => some (Blk.row 7 x 0)) hs)) | exact zi1 | exact zb1), by repeat' (first | with_reducible exact zH0 | with_reducible refine zH1 ?_ ?_ | rfl | assumption | ((exact congrArg (fun x => some (Blk.row 7 x 0)) hs))), rfl⟩
    · obtain rfl : i = L.length := by omega
      rw [List.take_length]
      repeat' ((conv => whnf); first | (with_reducible first | refine br_t ?_ | refine br_f ?_ | refine za ?_ | refine zg ?_ | refine zo ?_) | rw [hL] | refine zp ?_ | refine zq ?_ | (with_reducible first | refine bc (fun h => ?_) (fun h => ?_) | refine zt ?_ | refine zf ?_ | refine br_i (fun h => ?_) (fun h => ?_)) | refine zg ?_ | refine zi ?_ | refine zb ?_ | refine zl ?_)
      all_goals conv => whnf
      exact .inl ⟨24, 0, _, rfl, rfl, rfl⟩
end Go.Proofs.Ytnjgfhgpicmklaa

namespace Go.Proofs.Ytnjgfhgpicmklaa
open Go Go.RowKit Go.Sort Sx
theorem drop1 {α β : Type} {f : α → β} {p : α} {a : List α} {n : Nat} {z : Int} (hz : z.toNat = 1) (hn : a.length + 1 ≤ n) : (((p :: a).map f).take n).drop z.toNat = a.map f := by
  rw [hz, List.take_of_length_le (by simpa using hn)]; rfl
set_option maxRecDepth 100000 in
set_option maxHeartbeats 4000000 in
theorem dmerge_fn (m n : Md) (h1 : m.l.length ≤ 1000) (h2 : n.l.length ≤ 1000) : FnOK Try.prog 35 [m.dc, n.dc] (.c (.one (uns (mrg m.l n.l)))) := by
  generalize hX : mrg m.l n.l = X
  refine fn_ok (by kernel_rfl) (ty_okK [5, 76, 105, 40] [] [] []) Try.func35 rfl (fun _ _ => Try.call35 _ _) rfl ?_
  intro hw
  clear hw
  repeat' ((conv => whnf); first | (with_reducible first | refine br_t ?_ | refine br_f ?_ | refine za ?_ | refine zg ?_ | refine zo ?_) | refine zp ?_ | refine zq ?_ | (with_reducible first | refine bc (fun h => ?_) (fun h => ?_) | refine zt ?_ | refine zf ?_ | refine br_i (fun h => ?_) (fun h => ?_) | refine xi (pv_bool fun _ => nev57 _ _ _ _ _ _ _ _ _) ?_) | refine zg ?_ | refine zi ?_ | refine zb ?_ | refine zl ?_)
  refine loop_J (by kernel_rfl) (ty_okK [5, 76, 105, 40] [] [] []) (σ := List Pt × List Pt × List Un) (fun s => [(6, sD (.list 3 (s.1.map Pt.c))), (7, sD (.list 3 (s.2.1.map Pt.c))), (5, .c (.at (.osl 5 0)))]) (fun s => [(5, .row 5 (s.2.2.map Un.c) 0)])
    (fun s => s.1.length + s.2.1.length + s.2.2.length ≤ 2000 ∧ s.2.2 ++ mrg s.1 s.2.1 = X) (fun s => s.1.length + s.2.1.length) (m.l, n.l, []) ⟨by simp; omega, hX⟩ ?_ ?_
  · (conv => whnf); exact zent
  rintro ⟨a, b, o⟩ ⟨hb, hI⟩
  dsimp only at hb hI
  have hol : (o.map Un.c).length = o.length := List.length_map ..
  have lz : (([] : List Pt).map Pt.c).length = 0 := rfl
  rcases a with _ | ⟨p, a⟩
  · rcases b with _ | ⟨q, b⟩
    · rw [mrg_nn, List.append_nil] at hI
      subst hI
      repeat' ((conv => whnf); first | (with_reducible first | refine br_t ?_ | refine br_f ?_ | refine za ?_ | refine zg ?_ | refine zo ?_) | rw [lz] | refine zp ?_ | refine zq ?_ | (with_reducible first | refine bc (fun h => ?_) (fun h => ?_) | refine zt ?_ | refine zf ?_ | refine br_i (fun h => ?_) (fun h => ?_) | refine xi (pv_bool fun _ => nev57 _ _ _ _ _ _ _ _ _) ?_) | refine zg ?_ | refine zi ?_ | refine zb ?_ | refine zl ?_)
      all_goals conv => whnf
      all_goals rfl
    · have gb : ((q :: b).map Pt.c)[(0 : Int).toNat]? = some [i64 q.id, i64 q.a, i64 q.b] := rfl
      have lb : ((q :: b).map Pt.c).length = b.length + 1 := by simp
      have hdb := drop1 (f := Pt.c) (p := q) (a := b) (n := ((b.length + 1 : Nat) : Int).toNat) (z := 1) rfl (by omega)
      simp only [List.length_cons, List.length_nil] at hb
      rw [mrg_b (.inl rfl)] at hI
      have hs : o.map Un.c ++ [[u8 3, i64 q.id, i64 q.id, i64 q.a, i64 q.b]] = (o ++ [(⟨3, q.id, q⟩ : Un)]).map Un.c := by rw [List.map_append]; rfl
      repeat' ((conv => whnf); first | (with_reducible first | refine br_t ?_ | refine br_f ?_ | refine za ?_ | refine zg ?_ | refine zo ?_) | rw [lb] | rw [lz] | rw [hol] | refine zp ?_ | refine zq ?_ | (with_reducible first | refine bc (fun h => ?_) (fun h => ?_) | refine zt ?_ | refine zf ?_ | refine br_i (fun h => ?_) (fun h => ?_) | refine xi (pv_bool fun _ => nev57 _ _ _ _ _ _ _ _ _) ?_) | refine zg ?_ | refine zi ?_ | refine zb ?_ | refine zl ?_)
      all_goals conv => whnf
      refine ⟨([], b, o ++ [(⟨3, q.id, q⟩ : Un)]), ⟨by simp; omega, by rw [List.append_assoc]; exact hI⟩, ?_, by simp only [List.length_cons, List.length_nil]; omega⟩
      (conv => whnf); refine ⟨by repeat' (first | with_reducible exact zE0 | with_reducible refine zE1 ?_ ?_ | rfl | assumption | (first | exact congrArg (fun x => some (Blk.row 5 x 0)) hs | exact congrArg (fun x => some (sD (.list 3 x))) hda | exact congrArg (fun x => some (sD (.list 3 x))) hdb) | exact zi1 | exact zb1), by repeat' (first | with_reducible exact zH0 | with_reducible refine zH1 ?_ ?_ | rfl | assumption | (first | exact congrArg (fun x => some (Blk.row 5 x 0)) hs | exact congrArg (fun x => some (sD (.list 3 x))) hda | exact congrArg (fun x => some (sD (.list 3 x))) hdb)), rfl⟩
  · have ga : ((p :: a).map Pt.c)[(0 : Int).toNat]? = some [i64 p.id, i64 p.a, i64 p.b] := rfl
    have la : ((p :: a).map Pt.c).length = a.length + 1 := by simp
    have hda := drop1 (f := Pt.c) (p := p) (a := a) (n := ((a.length + 1 : Nat) : Int).toNat) (z := 1) rfl (by omega)
    rcases b with _ | ⟨q, b⟩
    · simp only [List.length_cons, List.length_nil] at hb
      rw [mrg_a (.inl rfl)] at hI
      have hs : o.map Un.c ++ [[u8 2, i64 p.id, i64 p.id, i64 p.a, i64 p.b]] = (o ++ [(⟨2, p.id, p⟩ : Un)]).map Un.c := by rw [List.map_append]; rfl
      repeat' ((conv => whnf); first | (with_reducible first | refine br_t ?_ | refine br_f ?_ | refine za ?_ | refine zg ?_ | refine zo ?_) | rw [la] | rw [lz] | rw [hol] | refine zp ?_ | refine zq ?_ | (with_reducible first | refine bc (fun h => ?_) (fun h => ?_) | refine zt ?_ | refine zf ?_ | refine br_i (fun h => ?_) (fun h => ?_) | refine xi (pv_bool fun _ => nev57 _ _ _ _ _ _ _ _ _) ?_) | refine zg ?_ | refine zi ?_ | refine zb ?_ | refine zl ?_)
      all_goals conv => whnf
      refine ⟨(a, [], o ++ [(⟨2, p.id, p⟩ : Un)]), ⟨by simp; omega, by rw [List.append_assoc]; exact hI⟩, ?_, by simp only [List.length_cons, List.length_nil]; omega⟩
      (conv => whnf); refine ⟨by repeat' (first | with_reducible exact zE0 | with_reducible refine zE1 ?_ ?_ | rfl | assumption | (first | exact congrArg (fun x => some (Blk.row 5 x 0)) hs | exact congrArg (fun x => some (sD (.list 3 x))) hda | exact congrArg (fun x => some (sD (.list 3 x))) hdb) | exact zi1 | exact zb1), by repeat' (first | with_reducible exact zH0 | with_reducible refine zH1 ?_ ?_ | rfl | assumption | (first | exact congrArg (fun x => some (Blk.row 5 x 0)) hs | exact congrArg (fun x => some (sD (.list 3 x))) hda | exact congrArg (fun x => some (sD (.list 3 x))) hdb)), rfl⟩
    · have gb : ((q :: b).map Pt.c)[(0 : Int).toNat]? = some [i64 q.id, i64 q.a, i64 q.b] := rfl
      have lb : ((q :: b).map Pt.c).length = b.length + 1 := by simp
      have hdb := drop1 (f := Pt.c) (p := q) (a := b) (n := ((b.length + 1 : Nat) : Int).toNat) (z := 1) rfl (by omega)
      simp only [List.length_cons] at hb
      rcases Int.lt_trichotomy p.id q.id with h | h | h
      · rw [mrg_a (.inr ⟨q, b, rfl, h⟩)] at hI
        have hs : o.map Un.c ++ [[u8 2, i64 p.id, i64 p.id, i64 p.a, i64 p.b]] = (o ++ [(⟨2, p.id, p⟩ : Un)]).map Un.c := by rw [List.map_append]; rfl
        repeat' ((conv => whnf); first | (with_reducible first | refine br_t ?_ | refine br_f ?_ | refine za ?_ | refine zg ?_ | refine zo ?_) | rw [la] | rw [lb] | rw [hol] | refine zp ?_ | refine zq ?_ | (with_reducible first | refine bc (fun h => ?_) (fun h => ?_) | refine zt ?_ | refine zf ?_ | refine br_i (fun h => ?_) (fun h => ?_) | refine xi (pv_bool fun _ => nev57 _ _ _ _ _ _ _ _ _) ?_) | refine zg ?_ | refine zi ?_ | refine zb ?_ | refine zl ?_)
        all_goals conv => whnf
        refine ⟨(a, q :: b, o ++ [(⟨2, p.id, p⟩ : Un)]), ⟨by simp; omega, by rw [List.append_assoc]; exact hI⟩, ?_, by simp only [List.length_cons, List.length_nil]; omega⟩
        (conv => whnf); refine ⟨by repeat' (first | with_reducible exact zE0 | with_reducible refine zE1 ?_ ?_ | rfl | assumption | (first | exact congrArg (fun x => some (Blk.row 5 x 0)) hs | exact congrArg (fun x => some (sD (.list 3 x))) hda | exact congrArg (fun x => some (sD (.list 3 x))) hdb) | exact zi1 | exact zb1), by repeat' (first | with_reducible exact zH0 | with_reducible refine zH1 ?_ ?_ | rfl | assumption | (first | exact congrArg (fun x => some (Blk.row 5 x 0)) hs | exact congrArg (fun x => some (sD (.list 3 x))) hda | exact congrArg (fun x => some (sD (.list 3 x))) hdb)), rfl⟩
      · by_cases c : p = q
        · subst c
          rw [mrg_e] at hI
          repeat' ((conv => whnf); first | (with_reducible first | refine br_t ?_ | refine br_f ?_ | refine za ?_ | refine zg ?_ | refine zo ?_) | rw [la] | rw [lb] | rw [hol] | refine zp ?_ | refine zq ?_ | (with_reducible first | refine bc (fun h => ?_) (fun h => ?_) | refine zt ?_ | refine zf ?_ | refine br_i (fun h => ?_) (fun h => ?_) | refine xi (pv_bool fun _ => nev57 _ _ _ _ _ _ _ _ _) ?_) | refine zg ?_ | refine zi ?_ | refine zb ?_ | refine zl ?_)
          all_goals conv => whnf
          refine ⟨(a, b, o), ⟨by simp; omega, hI⟩, ?_, by simp only [List.length_cons]; omega⟩
          (conv => whnf); refine ⟨by repeat' (first | with_reducible exact zE0 | with_reducible refine zE1 ?_ ?_ | rfl | assumption | (first | exact congrArg (fun x => some (sD (.list 3 x))) hda | exact congrArg (fun x => some (sD (.list 3 x))) hdb) | exact zi1 | exact zb1), by repeat' (first | with_reducible exact zH0 | with_reducible refine zH1 ?_ ?_ | rfl | assumption | (first | exact congrArg (fun x => some (sD (.list 3 x))) hda | exact congrArg (fun x => some (sD (.list 3 x))) hdb)), rfl⟩
        · have hne : ¬ (p.id = q.id ∧ p.a = q.a ∧ p.b = q.b) := fun e => c (Pt.eq_iff.2 e)
          rw [mrg_n h c] at hI
          have hs : o.map Un.c ++ [[u8 4, i64 p.id, i64 q.id, i64 q.a, i64 q.b]] = (o ++ [(⟨4, p.id, q⟩ : Un)]).map Un.c := by rw [List.map_append]; rfl
          repeat' ((conv => whnf); first | (with_reducible first | refine br_t ?_ | refine br_f ?_ | refine za ?_ | refine zg ?_ | refine zo ?_) | rw [la] | rw [lb] | rw [hol] | refine zp ?_ | refine zq ?_ | (with_reducible first | refine bc (fun h => ?_) (fun h => ?_) | refine zt ?_ | refine zf ?_ | refine br_i (fun h => ?_) (fun h => ?_) | refine xi (pv_bool fun _ => nev57 _ _ _ _ _ _ _ _ _) ?_) | refine zg ?_ | refine zi ?_ | refine zb ?_ | refine zl ?_)
          all_goals conv => whnf
          refine ⟨(a, b, o ++ [(⟨4, p.id, q⟩ : Un)]), ⟨by simp; omega, by rw [List.append_assoc]; exact hI⟩, ?_, by simp only [List.length_cons, List.length_nil]; omega⟩
          (conv => whnf); refine ⟨by repeat' (first | with_reducible exact zE0 | with_reducible refine zE1 ?_ ?_ | rfl | assumption | (first | exact congrArg (fun x => some (Blk.row 5 x 0)) hs | exact congrArg (fun x => some (sD (.list 3 x))) hda | exact congrArg (fun x => some (sD (.list 3 x))) hdb) | exact zi1 | exact zb1), by repeat' (first | with_reducible exact zH0 | with_reducible refine zH1 ?_ ?_ | rfl | assumption | (first | exact congrArg (fun x => some (Blk.row 5 x 0)) hs | exact congrArg (fun x => some (sD (.list 3 x))) hda | exact congrArg (fun x => some (sD (.list 3 x))) hdb)), rfl⟩
      · rw [mrg_b (.inr ⟨p, a, rfl, h⟩)] at hI
        have hs : o.map Un.c ++ [[u8 3, i64 q.id, i64 q.id, i64 q.a, i64 q.b]] = (o ++ [(⟨3, q.id, q⟩ : Un)]).map Un.c := by rw [List.map_append]; rfl
        repeat' ((conv => whnf); first | (with_reducible first | refine br_t ?_ | refine br_f ?_ | refine za ?_ | refine zg ?_ | refine zo ?_) | rw [la] | rw [lb] | rw [hol] | refine zp ?_ | refine zq ?_ | (with_reducible first | refine bc (fun h => ?_) (fun h => ?_) | refine zt ?_ | refine zf ?_ | refine br_i (fun h => ?_) (fun h => ?_) | refine xi (pv_bool fun _ => nev57 _ _ _ _ _ _ _ _ _) ?_) | refine zg ?_ | refine zi ?_ | refine zb ?_ | refine zl ?_)
        all_goals conv => whnf
        refine ⟨(p :: a, b, o ++ [(⟨3, q.id, q⟩ : Un)]), ⟨by simp; omega, by rw [List.append_assoc]; exact hI⟩, ?_, by simp only [List.length_cons, List.length_nil]; omega⟩
        (conv => whnf); refine ⟨by repeat' (first | with_reducible exact zE0 | with_reducible refine zE1 ?_ ?_ | rfl | assumption | (first | exact congrArg (fun x => some (Blk.row 5 x 0)) hs | exact congrArg (fun x => some (sD (.list 3 x))) hda | exact congrArg (fun x => some (sD (.list 3 x))) hdb) | exact zi1 | exact zb1), by repeat' (first | with_reducible exact zH0 | with_reducible refine zH1 ?_ ?_ | rfl | assumption | (first | exact congrArg (fun x => some (Blk.row 5 x 0)) hs | exact congrArg (fun x => some (sD (.list 3 x))) hda | exact congrArg (fun x => some (sD (.list 3 x))) hdb)), rfl⟩
end Go.Proofs.Ytnjgfhgpicmklaa

namespace Go.Proofs.Ytnjgfhgpicmklaa
open Go Go.RowKit Go.Sort Sx
abbrev retU (x : List Uk × Int) : DV := .tup [.one (uks x.1), .one (i64 x.2)]
abbrev retKs (x : List Ak × Int) : DV := .tup [.one (aks x.1), .one (i64 x.2)]
theorem uns_get {l : List Un} {i : Nat} (h : i < l.length) : (l.map Un.c)[((i : Nat) : Int).toNat]? = some [u8 l[i].k, i64 l[i].id, i64 l[i].p.id, i64 l[i].p.a, i64 l[i].p.b] := by
  rw [Int.toNat_natCast, List.getElem?_map, List.getElem?_eq_getElem h]; rfl
theorem uks_get {l : List Uk} {i : Nat} (h : i < l.length) : (l.map Uk.c)[((i : Nat) : Int).toNat]? = some [u8 l[i].k, i64 l[i].id] := by
  rw [Int.toNat_natCast, List.getElem?_map, List.getElem?_eq_getElem h]; rfl
theorem rowU_succ {P : List Uk} {U : List Un} {i : Nat} (h : i < U.length) : (P ++ (U.take i).map Un.u).map Uk.c ++ [[u8 U[i].k, i64 U[i].id]] = (P ++ (U.take (i + 1)).map Un.u).map Uk.c := by
  rw [List.take_succ_eq_append_getElem h, List.map_append, List.map_append, List.map_append, List.map_append, List.append_assoc]; rfl
theorem both_len {m n : Md} (h : bothV m n = 0) : m.l.length ≤ 64 ∧ n.l.length ≤ 64 := by
  obtain ⟨h1, h2⟩ := both_ok h
  exact ⟨(fchk_ok (mchk_ok h1).2).1, (fchk_ok (mchk_ok h2).2).1⟩
set_option maxRecDepth 100000 in
set_option maxHeartbeats 4000000 in
theorem dAll_fn (m n : Md) : FnOK Try.prog 8 [m.dc, n.dc] (retU (allV m n)) := by
  have H0 := dboth_fn m n
  unfold allV
  by_cases h : bothV m n = 0
  · rw [if_pos h]
    rw [h] at H0
    obtain ⟨b1, b2⟩ := both_len h
    have HM := dmerge_fn m n (by omega) (by omega)
    have hlen := mrg_len m.l n.l
    unfold allU nowU
    generalize mrg m.l n.l = U at *
    have hul : (U.map Un.c).length = U.length := List.length_map ..
    by_cases c : m.n = n.n ∧ m.d = n.d
    · rw [if_pos c]
      obtain ⟨c1, c2⟩ := c
      refine fn_ok (by kernel_rfl) (ty_okK [7, 24, 37] [] [] []) Try.func8 rfl (fun _ _ => Try.call8 _ _) rfl ?_
      intro hw
      clear hw
      repeat' ((conv => whnf); first | (with_reducible first | refine br_t ?_ | refine br_f ?_ | refine za ?_ | refine zg ?_ | refine zo ?_) | rw [hul] | refine zp ?_ | refine zq ?_ | (with_reducible first | refine bc (fun h => ?_) (fun h => ?_) | refine zt ?_ | refine zf ?_ | refine br_i (fun h => ?_) (fun h => ?_) | refine xi (pv_bool fun _ => nev23 _ _ _ _ _ _ _) ?_) | refine zg ?_ | refine zi ?_ | refine zb ?_ | refine zl ?_)
      clear H0 HM
      refine loop_J (by kernel_rfl) (ty_okK [7, 24, 37] [] [] []) (σ := Nat) (fun i => [(29, sV (.int .i64 i)), (7, .c (.at (.osl 7 0)))]) (fun i => [(7, .row 2 ((([] : List Uk) ++ (U.take i).map Un.u).map Uk.c) 0)]) (fun i => i ≤ U.length) (fun i => U.length - i) 0 (Nat.zero_le _) ?_ ?_
      · (conv => whnf); exact zent
      intro i hi
      have hl : ((([] : List Uk) ++ (U.take i).map Un.u).map Uk.c).length = i := by simp; omega
      rcases Nat.lt_or_ge i U.length with hlt | hge
      · have g1 := uns_get hlt
        have hs := rowU_succ (P := []) hlt
        repeat' ((conv => whnf); first | (with_reducible first | refine br_t ?_ | refine br_f ?_ | refine za ?_ | refine zg ?_ | refine zo ?_) | rw [hl] | rw [hul] | refine zp ?_ | refine zq ?_ | (with_reducible first | refine bc (fun h => ?_) (fun h => ?_) | refine zt ?_ | refine zf ?_ | refine br_i (fun h => ?_) (fun h => ?_) | refine xi (pv_bool fun _ => nev23 _ _ _ _ _ _ _) ?_) | refine zg ?_ | refine zi ?_ | refine zb ?_ | refine zl ?_)
        all_goals conv => whnf
        refine ⟨i + 1, by omega, ?_, by omega⟩
        (conv => whnf); refine ⟨by repeat' (first | with_reducible exact zE0 | with_reducible refine zE1 ?_ ?_ | rfl | assumption | ((exact congrArg (fun x => some (Blk.row 2 x 0)) hs)) | exact zi1 | exact zb1), by repeat' (first | with_reducible exact zH0 | with_reducible refine zH1 ?_ ?_ | rfl | assumption | ((exact congrArg (fun x => some (Blk.row 2 x 0)) hs))), rfl⟩
      · rw [List.take_of_length_le hge]
        repeat' ((conv => whnf); first | (with_reducible first | refine br_t ?_ | refine br_f ?_ | refine za ?_ | refine zg ?_ | refine zo ?_) | rw [hul] | refine zp ?_ | refine zq ?_ | (with_reducible first | refine bc (fun h => ?_) (fun h => ?_) | refine zt ?_ | refine zf ?_ | refine br_i (fun h => ?_) (fun h => ?_) | refine xi (pv_bool fun _ => nev23 _ _ _ _ _ _ _) ?_) | refine zg ?_ | refine zi ?_ | refine zb ?_ | refine zl ?_)
        all_goals conv => whnf
        all_goals rfl
    · rw [if_neg c]
      have c' : ¬ (m.n = n.n ∧ m.d = n.d) := c
      refine fn_ok (by kernel_rfl) (ty_okK [7, 24, 37] [] [] []) Try.func8 rfl (fun _ _ => Try.call8 _ _) rfl ?_
      intro hw
      clear hw
      repeat' ((conv => whnf); first | (with_reducible first | refine br_t ?_ | refine br_f ?_ | refine za ?_ | refine zg ?_ | refine zo ?_) | rw [hul] | refine zp ?_ | refine zq ?_ | (with_reducible first | refine bc (fun h => ?_) (fun h => ?_) | refine zt ?_ | refine zf ?_ | refine br_i (fun h => ?_) (fun h => ?_) | refine xi (pv_bool fun _ => nev23 _ _ _ _ _ _ _) ?_) | refine zg ?_ | refine zi ?_ | refine zb ?_ | refine zl ?_)
      clear H0 HM
      refine loop_keep [4, 5, 7, 27, 28, 29] ?_
      conv => whnf
      refine loop_J (by kernel_rfl) (ty_okK [7, 24, 37] [] [] []) (σ := Nat) (fun i => [(29, sV (.int .i64 i)), (7, .c (.at (.osl 7 0)))]) (fun i => [(7, .row 2 ((([⟨1, 0⟩] : List Uk) ++ (U.take i).map Un.u).map Uk.c) 0)]) (fun i => i ≤ U.length) (fun i => U.length - i) 0 (Nat.zero_le _) ?_ ?_
      · (conv => whnf); exact zent
      intro i hi
      have hl : ((([⟨1, 0⟩] : List Uk) ++ (U.take i).map Un.u).map Uk.c).length = i + 1 := by simp; omega
      rcases Nat.lt_or_ge i U.length with hlt | hge
      · have g1 := uns_get hlt
        have hs := rowU_succ (P := [⟨1, 0⟩]) hlt
        repeat' ((conv => whnf); first | (with_reducible first | refine br_t ?_ | refine br_f ?_ | refine za ?_ | refine zg ?_ | refine zo ?_) | rw [hl] | rw [hul] | refine zp ?_ | refine zq ?_ | (with_reducible first | refine bc (fun h => ?_) (fun h => ?_) | refine zt ?_ | refine zf ?_ | refine br_i (fun h => ?_) (fun h => ?_) | refine xi (pv_bool fun _ => nev23 _ _ _ _ _ _ _) ?_) | refine zg ?_ | refine zi ?_ | refine zb ?_ | refine zl ?_)
        all_goals conv => whnf
        refine ⟨i + 1, by omega, ?_, by omega⟩
        (conv => whnf); refine ⟨by repeat' (first | with_reducible exact zE0 | with_reducible refine zE1 ?_ ?_ | rfl | assumption | ((exact congrArg (fun x => some (Blk.row 2 x 0)) hs)) | exact zi1 | exact zb1), by repeat' (first | with_reducible exact zH0 | with_reducible refine zH1 ?_ ?_ | rfl | assumption | ((exact congrArg (fun x => some (Blk.row 2 x 0)) hs))), rfl⟩
      · rw [List.take_of_length_le hge]
        repeat' ((conv => whnf); first | (with_reducible first | refine br_t ?_ | refine br_f ?_ | refine za ?_ | refine zg ?_ | refine zo ?_) | rw [hul] | refine zp ?_ | refine zq ?_ | (with_reducible first | refine bc (fun h => ?_) (fun h => ?_) | refine zt ?_ | refine zf ?_ | refine br_i (fun h => ?_) (fun h => ?_) | refine xi (pv_bool fun _ => nev23 _ _ _ _ _ _ _) ?_) | refine zg ?_ | refine zi ?_ | refine zb ?_ | refine zl ?_)
        all_goals conv => whnf
        all_goals rfl
  · rw [if_neg h]
    rw [(both_08 m n).resolve_left h] at H0
    refine fn_ok (by kernel_rfl) ty_ok Try.func8 rfl (fun _ _ => Try.call8 _ _) rfl ?_
    intro hw
    clear hw
    repeat' ((conv => whnf); first | (with_reducible first | refine br_t ?_ | refine br_f ?_ | refine za ?_ | refine zg ?_) | refine zp ?_ | refine zq ?_ | (with_reducible first | refine bc (fun h => ?_) (fun h => ?_) | refine zt ?_ | refine zf ?_ | refine br_i (fun h => ?_) (fun h => ?_) | refine xi (pv_bool fun _ => nev23 _ _ _ _ _ _ _) ?_) | refine zg ?_ | refine zi ?_ | refine zb ?_)
    all_goals conv => whnf
    all_goals rfl
theorem dFirst_fn (m n : Md) : FnOK Try.prog 10 [m.dc, n.dc] (.tup [(firstV m n).1.dc, .one (i64 (firstV m n).2)]) := by
  have H := dAll_fn m n
  unfold firstV
  unfold allV at H
  by_cases h : bothV m n = 0
  · rw [if_pos h] at H ⊢
    cases hU : allU m n with
    | nil =>
      rw [hU] at H
      simp only [retU, List.map_nil] at H
      dsimp only
      refine fn_ok (by kernel_rfl) ty_ok Try.func10 rfl (fun _ _ => Try.call10 _ _) rfl ?_
      intro hw
      clear hw
      exact zw
    | cons u r =>
      rw [hU] at H
      simp only [retU] at H
      dsimp only
      have g : ((u :: r).map Uk.c)[(0 : Int).toNat]? = some [u8 u.k, i64 u.id] := rfl
      have hl : ((u :: r).map Uk.c).length = r.length + 1 := by simp
      refine fn_ok (by kernel_rfl) ty_ok Try.func10 rfl (fun _ _ => Try.call10 _ _) rfl ?_
      intro hw
      clear hw
      repeat' ((conv => whnf); first | (with_reducible first | refine br_t ?_ | refine br_f ?_ | refine za ?_ | refine zg ?_) | rw [hl] | refine zp ?_ | refine zq ?_ | (with_reducible first | refine bc (fun h => ?_) (fun h => ?_) | refine zt ?_ | refine zf ?_ | refine br_i (fun h => ?_) (fun h => ?_)) | refine zg ?_ | refine zi ?_ | refine zb ?_)
      all_goals conv => whnf
      all_goals rfl
  · rw [if_neg h] at H ⊢
    refine fn_ok (by kernel_rfl) ty_ok Try.func10 rfl (fun _ _ => Try.call10 _ _) rfl ?_
    intro hw
    clear hw
    exact zw
theorem Md.eq_iff {m n : Md} : m = n ↔ (m.n = n.n ∧ m.d = n.d) ∧ m.l = n.l := by
  cases m; cases n; simp [and_assoc]
theorem dSame_fn (m n : Md) : FnOK Try.prog 12 [m.dc, n.dc] (.tup [.one (bol (sameV m n).1), .one (i64 (sameV m n).2)]) := by
  have H0 := dboth_fn m n
  have HE := eqPt_fn m.l n.l
  have he := Md.eq_iff (m := m) (n := n)
  unfold sameV
  by_cases h : bothV m n = 0
  · rw [if_pos h]
    rw [h] at H0
    by_cases c : m.l = n.l
    · rw [decide_eq_true c] at HE
      simp only [c, and_true] at he
      by_cases c1 : m.n = n.n ∧ m.d = n.d
      · rw [decide_eq_true (he.2 c1)]
        obtain ⟨c1, c2⟩ := c1
        clear c he
        refine fn_ok (by kernel_rfl) ty_ok Try.func12 rfl (fun _ _ => Try.call12 _ _) rfl ?_
        intro hw
        clear hw
        repeat' ((conv => whnf); first | (with_reducible first | refine br_t ?_ | refine br_f ?_ | refine za ?_ | refine zg ?_) | refine zp ?_ | refine zq ?_ | (with_reducible first | refine bc (fun h => ?_) (fun h => ?_) | refine zt ?_ | refine zf ?_ | refine br_i (fun h => ?_) (fun h => ?_) | refine xi (pv_bool fun _ => eqv23 _ _ _ _ _ _ _) ?_) | refine zg ?_ | refine zi ?_ | refine zb ?_)
        all_goals conv => whnf
        all_goals rfl
      · rw [decide_eq_false (fun e => c1 (he.1 e))]
        clear c he
        refine fn_ok (by kernel_rfl) ty_ok Try.func12 rfl (fun _ _ => Try.call12 _ _) rfl ?_
        intro hw
        clear hw
        repeat' ((conv => whnf); first | (with_reducible first | refine br_t ?_ | refine br_f ?_ | refine za ?_ | refine zg ?_) | refine zp ?_ | refine zq ?_ | (with_reducible first | refine bc (fun h => ?_) (fun h => ?_) | refine zt ?_ | refine zf ?_ | refine br_i (fun h => ?_) (fun h => ?_) | refine xi (pv_bool fun _ => eqv23 _ _ _ _ _ _ _) ?_) | refine zg ?_ | refine zi ?_ | refine zb ?_)
        all_goals conv => whnf
        all_goals rfl
    · rw [decide_eq_false c] at HE
      rw [decide_eq_false (fun e => c (he.1 e).2)]
      clear c he
      refine fn_ok (by kernel_rfl) ty_ok Try.func12 rfl (fun _ _ => Try.call12 _ _) rfl ?_
      intro hw
      clear hw
      repeat' ((conv => whnf); first | (with_reducible first | refine br_t ?_ | refine br_f ?_ | refine za ?_ | refine zg ?_) | refine zp ?_ | refine zq ?_ | (with_reducible first | refine bc (fun h => ?_) (fun h => ?_) | refine zt ?_ | refine zf ?_ | refine br_i (fun h => ?_) (fun h => ?_) | refine xi (pv_bool fun _ => eqv23 _ _ _ _ _ _ _) ?_) | refine zg ?_ | refine zi ?_ | refine zb ?_)
      all_goals conv => whnf
      all_goals rfl
  · rw [if_neg h]
    rw [(both_08 m n).resolve_left h] at H0
    clear HE he
    refine fn_ok (by kernel_rfl) ty_ok Try.func12 rfl (fun _ _ => Try.call12 _ _) rfl ?_
    intro hw
    clear hw
    repeat' ((conv => whnf); first | (with_reducible first | refine br_t ?_ | refine br_f ?_ | refine za ?_ | refine zg ?_) | refine zp ?_ | refine zq ?_ | (with_reducible first | refine bc (fun h => ?_) (fun h => ?_) | refine zt ?_ | refine zf ?_ | refine br_i (fun h => ?_) (fun h => ?_) | refine xi (pv_bool fun _ => eqv23 _ _ _ _ _ _ _) ?_) | refine zg ?_ | refine zi ?_ | refine zb ?_)
    all_goals conv => whnf
    all_goals rfl
theorem tk_succ {U : List Un} {i : Nat} (h : i < U.length) : tkA (U.take (i + 1)) = tkA (U.take i) ++ if U[i].k = 2 then [⟨2, ⟨0, 0, 0⟩, U[i].id, 0, 0⟩] else [] := by
  unfold tkA; rw [List.take_succ_eq_append_getElem h, List.filter_append, List.map_append]
  by_cases c : U[i].k = 2 <;> simp [c]
theorem ch_succ {U : List Un} {i : Nat} (h : i < U.length) : chA (U.take (i + 1)) = chA (U.take i) ++ if U[i].k = 4 then [⟨3, U[i].p, 0, 0, 0⟩] else [] := by
  unfold chA; rw [List.take_succ_eq_append_getElem h, List.filter_append, List.map_append]
  by_cases c : U[i].k = 4 <;> simp [c]
theorem pt_succ {U : List Un} {i : Nat} (h : i < U.length) : ptA (U.take (i + 1)) = ptA (U.take i) ++ if U[i].k = 3 then [⟨1, U[i].p, 0, 0, 0⟩] else [] := by
  unfold ptA; rw [List.take_succ_eq_append_getElem h, List.filter_append, List.map_append]
  by_cases c : U[i].k = 3 <;> simp [c]
theorem part_len (U : List Un) (i : Nat) : (tkA (U.take i)).length ≤ U.length ∧ (chA (U.take i)).length ≤ U.length ∧ (ptA (U.take i)).length ≤ U.length := by
  unfold tkA chA ptA
  simp only [List.length_map]
  have k : ∀ p : Un → Bool, ((U.take i).filter p).length ≤ U.length := fun p => Nat.le_trans (List.length_filter_le ..) (by rw [List.length_take]; omega)
  exact ⟨k _, k _, k _⟩
theorem part_get (U : List Un) (h : ∀ u ∈ U, u.k = 2 ∨ u.k = 3 ∨ u.k = 4) {i : Nat} (hi : i < U.length) : U[i].k = 2 ∨ U[i].k = 4 ∨ U[i].k = 3 := by
  have := h _ (List.getElem_mem hi); omega
set_option maxRecDepth 100000 in
set_option maxHeartbeats 8000000 in
theorem dAsks_fn (m n : Md) : FnOK Try.prog 14 [m.dc, n.dc] (retKs (asksV m n)) := by
  have H0 := dboth_fn m n
  unfold asksV
  by_cases h : bothV m n = 0
  · rw [if_pos h]
    rw [h] at H0
    obtain ⟨b1, b2⟩ := both_len h
    obtain ⟨hm, hn⟩ := both_ok h
    have q1 := (askd_ok (mchk_ok hm).1).1
    have q2 := (askd_ok (mchk_ok hn).1).1
    have HC := cmp_chk q2 q1
    have hcc := cmpN_cases (n.n * m.d) (m.n * n.d)
    have heq : n.n * m.d = m.n * n.d ↔ m.n = n.n ∧ m.d = n.d := by
      constructor
      · intro e
        have l1 : ¬ qv m.n m.d < qv n.n n.d := fun h => by have := (qv_ltM q1 q2).1 h; omega
        have l2 : ¬ qv n.n n.d < qv m.n m.d := fun h => by have := (qv_ltM q2 q1).1 h; omega
        exact (qv_inj q1 q2).1 (Rat.le_antisymm (Rat.not_lt.1 l2) (Rat.not_lt.1 l1))
      · rintro ⟨e1, e2⟩
        rw [e1, e2]
    by_cases hlt : n.n * m.d < m.n * n.d
    · rw [if_pos hlt]
      have hc : cmpN (n.n * m.d) (m.n * n.d) = -1 := by omega
      rw [hc] at HC
      clear hcc heq hlt
      refine fn_ok (by kernel_rfl) ty_ok Try.func14 rfl (fun _ _ => Try.call14 _ _) rfl ?_
      intro hw
      clear hw
      exact zw
    · rw [if_neg hlt]
      have HM := dmerge_fn m n (by omega) (by omega)
      have hlen := mrg_len m.l n.l
      have hk : ∀ u ∈ mrg m.l n.l, u.k = 2 ∨ u.k = 3 ∨ u.k = 4 := fun u hu => mrg_kinds hu
      unfold asksL mvA
      generalize mrg m.l n.l = U at *
      have hul : (U.map Un.c).length = U.length := List.length_map ..
      have hpl := part_len U U.length
      rw [List.take_length] at hpl
      have HG := catAk_own [(tkA U).map Ak.c, (chA U).map Ak.c, (ptA U).map Ak.c] (by simp; omega) (by simp)
      have hfl : [(tkA U).map Ak.c, (chA U).map Ak.c, (ptA U).map Ak.c].flatten = (tkA U ++ chA U ++ ptA U).map Ak.c := by simp
      rw [hfl] at HG
      have hQl : ((tkA U ++ chA U ++ ptA U).map Ak.c).length = (tkA U ++ chA U ++ ptA U).length := List.length_map ..
      have hQ2 : (tkA U ++ chA U ++ ptA U).length ≤ 1000 := by simp; omega
      have HG' : FnOwn Try.prog 40 [.one (.list 1 [[.list 7 ((tkA U).map Ak.c)], [.list 7 ((chA U).map Ak.c)], [.list 7 ((ptA U).map Ak.c)]])] (ownL 7 ((tkA U ++ chA U ++ ptA U).map Ak.c)) := HG
      clear HG hfl
      have main : ∀ (Z : List Ak × Int), (if 120 < (tkA U ++ chA U ++ ptA U ++ if m.n = n.n ∧ m.d = n.d then [] else [(⟨4, ⟨0, 0, 0⟩, 0, n.n, n.d⟩ : Ak)]).length then ([], 4) else (tkA U ++ chA U ++ ptA U ++ (if m.n = n.n ∧ m.d = n.d then [] else [(⟨4, ⟨0, 0, 0⟩, 0, n.n, n.d⟩ : Ak)]), 0)) = Z → FnOK Try.prog 14 [m.dc, n.dc] (retKs Z) := fun Z hZ => by
        generalize tkA U ++ chA U ++ ptA U = Q at *
        have hs4 : Q.map Ak.c ++ [[u8 4, i64 0, i64 0, i64 0, i64 0, i64 n.n, i64 n.d]] = (Q ++ [(⟨4, ⟨0, 0, 0⟩, 0, n.n, n.d⟩ : Ak)]).map Ak.c := by rw [List.map_append]; rfl
        generalize hcn : cmpN (n.n * m.d) (m.n * n.d) = cc at *
        refine fn_ok (by kernel_rfl) (ty_okK [9, 10, 11, 53, 61, 69, 75, 83] [] [] []) Try.func14 rfl (fun _ _ => Try.call14 _ _) rfl ?_
        intro hw
        clear hw
        repeat' ((conv => whnf); first | (with_reducible first | refine br_t ?_ | refine br_f ?_ | refine za ?_ | refine zg ?_ | refine zo ?_) | rw [hul] | refine zp ?_ | refine zq ?_ | (with_reducible first | refine bc (fun h => ?_) (fun h => ?_) | refine zt ?_ | refine zf ?_ | refine br_i (fun h => ?_) (fun h => ?_)) | refine zg ?_ | refine zi ?_ | refine zb ?_ | refine zl ?_)
        refine loop_frz [9, 10, 11] ?_
        refine loop_J (by kernel_rfl) (ty_okK [9, 10, 11, 53, 61, 69, 75, 83] [] [] []) (σ := Nat) (fun i => [(38, sV (.int .i64 i)), (9, .c (.at (.osl 9 0))), (10, .c (.at (.osl 10 0))), (11, .c (.at (.osl 11 0)))]) (fun i => [(9, .row 7 ((tkA (U.take i)).map Ak.c) 0), (10, .row 7 ((chA (U.take i)).map Ak.c) 0), (11, .row 7 ((ptA (U.take i)).map Ak.c) 0)]) (fun i => i ≤ U.length) (fun i => U.length - i) 0 (Nat.zero_le _) ?_ ?_
        · (conv => whnf); exact zent
        intro i hi
        have p1 : (tkA (U.take i)).length ≤ U.length := (part_len U i).1
        have p2 : (chA (U.take i)).length ≤ U.length := (part_len U i).2.1
        have p3 : (ptA (U.take i)).length ≤ U.length := (part_len U i).2.2
        rcases Nat.lt_or_ge i U.length with hlt | hge
        · have g1 := uns_get hlt
          have t1 := tk_succ hlt
          have t2 := ch_succ hlt
          have t3 := pt_succ hlt
          clear HG' H0 HC HM
          rcases part_get U hk hlt with c | c | c
          · rw [if_pos c] at t1
            rw [if_neg (by omega), List.append_nil] at t2 t3
            have s1 : (tkA (U.take i)).map Ak.c ++ [[u8 2, i64 0, i64 0, i64 0, i64 U[i].id, i64 0, i64 0]] = (tkA (U.take (i + 1))).map Ak.c := by rw [t1, List.map_append]; rfl
            have s2 := congrArg (List.map Ak.c) t2
            have s3 := congrArg (List.map Ak.c) t3
            clear t1 t2 t3
            rw [c] at g1
            repeat' ((conv => whnf); first | (with_reducible first | refine br_t ?_ | refine br_f ?_ | refine za ?_ | refine zg ?_ | refine zo ?_) | refine zp ?_ | refine zq ?_ | (with_reducible first | refine bc (fun h => ?_) (fun h => ?_) | refine zt ?_ | refine zf ?_ | refine br_i (fun h => ?_) (fun h => ?_)) | refine zg ?_ | refine zi ?_ | refine zb ?_ | refine zl ?_)
            all_goals conv => whnf
            refine ⟨i + 1, by omega, ?_, by omega⟩
            (conv => whnf); refine ⟨by repeat' (first | with_reducible exact zE0 | with_reducible refine zE1 ?_ ?_ | rfl | assumption | (first | exact congrArg (fun x => some (Blk.row 7 x 0)) s1 | exact congrArg (fun x => some (Blk.row 7 x 0)) s2.symm | exact congrArg (fun x => some (Blk.row 7 x 0)) s3.symm) | exact zi1 | exact zb1), by repeat' (first | with_reducible exact zH0 | with_reducible refine zH1 ?_ ?_ | rfl | assumption | (first | exact congrArg (fun x => some (Blk.row 7 x 0)) s1 | exact congrArg (fun x => some (Blk.row 7 x 0)) s2.symm | exact congrArg (fun x => some (Blk.row 7 x 0)) s3.symm)), rfl⟩
          · rw [if_pos c] at t2
            rw [if_neg (by omega), List.append_nil] at t1 t3
            have s2 : (chA (U.take i)).map Ak.c ++ [[u8 3, i64 U[i].p.id, i64 U[i].p.a, i64 U[i].p.b, i64 0, i64 0, i64 0]] = (chA (U.take (i + 1))).map Ak.c := by rw [t2, List.map_append]; rfl
            have s1 := congrArg (List.map Ak.c) t1
            have s3 := congrArg (List.map Ak.c) t3
            clear t1 t2 t3
            rw [c] at g1
            repeat' ((conv => whnf); first | (with_reducible first | refine br_t ?_ | refine br_f ?_ | refine za ?_ | refine zg ?_ | refine zo ?_) | refine zp ?_ | refine zq ?_ | (with_reducible first | refine bc (fun h => ?_) (fun h => ?_) | refine zt ?_ | refine zf ?_ | refine br_i (fun h => ?_) (fun h => ?_)) | refine zg ?_ | refine zi ?_ | refine zb ?_ | refine zl ?_)
            all_goals conv => whnf
            refine ⟨i + 1, by omega, ?_, by omega⟩
            (conv => whnf); refine ⟨by repeat' (first | with_reducible exact zE0 | with_reducible refine zE1 ?_ ?_ | rfl | assumption | (first | exact congrArg (fun x => some (Blk.row 7 x 0)) s2 | exact congrArg (fun x => some (Blk.row 7 x 0)) s1.symm | exact congrArg (fun x => some (Blk.row 7 x 0)) s3.symm) | exact zi1 | exact zb1), by repeat' (first | with_reducible exact zH0 | with_reducible refine zH1 ?_ ?_ | rfl | assumption | (first | exact congrArg (fun x => some (Blk.row 7 x 0)) s2 | exact congrArg (fun x => some (Blk.row 7 x 0)) s1.symm | exact congrArg (fun x => some (Blk.row 7 x 0)) s3.symm)), rfl⟩
          · rw [if_pos c] at t3
            rw [if_neg (by omega), List.append_nil] at t1 t2
            have s3 : (ptA (U.take i)).map Ak.c ++ [[u8 1, i64 U[i].p.id, i64 U[i].p.a, i64 U[i].p.b, i64 0, i64 0, i64 0]] = (ptA (U.take (i + 1))).map Ak.c := by rw [t3, List.map_append]; rfl
            have s1 := congrArg (List.map Ak.c) t1
            have s2 := congrArg (List.map Ak.c) t2
            clear t1 t2 t3
            rw [c] at g1
            repeat' ((conv => whnf); first | (with_reducible first | refine br_t ?_ | refine br_f ?_ | refine za ?_ | refine zg ?_ | refine zo ?_) | refine zp ?_ | refine zq ?_ | (with_reducible first | refine bc (fun h => ?_) (fun h => ?_) | refine zt ?_ | refine zf ?_ | refine br_i (fun h => ?_) (fun h => ?_)) | refine zg ?_ | refine zi ?_ | refine zb ?_ | refine zl ?_)
            all_goals conv => whnf
            refine ⟨i + 1, by omega, ?_, by omega⟩
            (conv => whnf); refine ⟨by repeat' (first | with_reducible exact zE0 | with_reducible refine zE1 ?_ ?_ | rfl | assumption | (first | exact congrArg (fun x => some (Blk.row 7 x 0)) s3 | exact congrArg (fun x => some (Blk.row 7 x 0)) s1.symm | exact congrArg (fun x => some (Blk.row 7 x 0)) s2.symm) | exact zi1 | exact zb1), by repeat' (first | with_reducible exact zH0 | with_reducible refine zH1 ?_ ?_ | rfl | assumption | (first | exact congrArg (fun x => some (Blk.row 7 x 0)) s3 | exact congrArg (fun x => some (Blk.row 7 x 0)) s1.symm | exact congrArg (fun x => some (Blk.row 7 x 0)) s2.symm)), rfl⟩
        · rw [List.take_of_length_le hge]
          clear p1 p2 p3 H0 HC HM
          by_cases ce : m.n = n.n ∧ m.d = n.d
          · have hc0 : cc = 0 := by have := heq.2 ce; omega
            rw [if_pos ce, List.append_nil] at hZ
            by_cases c1 : 120 < Q.length
            · rw [if_pos c1] at hZ
              subst hZ
              repeat' ((conv => whnf); first | (with_reducible first | refine br_t ?_ | refine br_f ?_ | refine za ?_ | refine zg ?_ | refine zo ?_) | rw [hul] | rw [hQl] | refine zp ?_ | refine zq ?_ | (with_reducible first | refine bc (fun h => ?_) (fun h => ?_) | refine zt ?_ | refine zf ?_ | refine br_i (fun h => ?_) (fun h => ?_)) | refine zg ?_ | refine zi ?_ | refine zb ?_ | refine zl ?_)
              all_goals conv => whnf
              all_goals rfl
            · rw [if_neg c1] at hZ
              subst hZ
              repeat' ((conv => whnf); first | (with_reducible first | refine br_t ?_ | refine br_f ?_ | refine za ?_ | refine zg ?_ | refine zo ?_) | rw [hul] | rw [hQl] | refine zp ?_ | refine zq ?_ | (with_reducible first | refine bc (fun h => ?_) (fun h => ?_) | refine zt ?_ | refine zf ?_ | refine br_i (fun h => ?_) (fun h => ?_)) | refine zg ?_ | refine zi ?_ | refine zb ?_ | refine zl ?_)
              all_goals conv => whnf
              all_goals rfl
          · have hc1 : cc = 1 := by
              have : ¬ n.n * m.d = m.n * n.d := fun e => ce (heq.1 e)
              omega
            rw [if_neg ce] at hZ
            have hl1 : (Q.map Ak.c ++ [[u8 4, i64 0, i64 0, i64 0, i64 0, i64 n.n, i64 n.d]]).length = Q.length + 1 := by simp
            have hl2 : (Q ++ [(⟨4, ⟨0, 0, 0⟩, 0, n.n, n.d⟩ : Ak)]).length = Q.length + 1 := by simp
            by_cases c1 : 120 < Q.length + 1
            · rw [if_pos (by omega)] at hZ
              subst hZ
              repeat' ((conv => whnf); first | (with_reducible first | refine br_t ?_ | refine br_f ?_ | refine za ?_ | refine zg ?_ | refine zo ?_) | rw [hul] | rw [hl1] | rw [hQl] | refine zp ?_ | refine zq ?_ | (with_reducible first | refine bc (fun h => ?_) (fun h => ?_) | refine zt ?_ | refine zf ?_ | refine br_i (fun h => ?_) (fun h => ?_)) | refine zg ?_ | refine zi ?_ | refine zb ?_ | refine zl ?_)
              all_goals conv => whnf
              all_goals rfl
            · rw [if_neg (by omega)] at hZ
              subst hZ
              repeat' ((conv => whnf); first | (with_reducible first | refine br_t ?_ | refine br_f ?_ | refine za ?_ | refine zg ?_ | refine zo ?_) | rw [hul] | rw [hl1] | rw [hQl] | refine zp ?_ | refine zq ?_ | (with_reducible first | refine bc (fun h => ?_) (fun h => ?_) | refine zt ?_ | refine zf ?_ | refine br_i (fun h => ?_) (fun h => ?_)) | refine zg ?_ | refine zi ?_ | refine zb ?_ | refine zl ?_)
              all_goals conv => whnf
              all_goals exact congrArg (fun x => DV.tup [.one (.list 7 x), .one (i64 0)]) hs4
      exact main _ rfl
  · rw [if_neg h]
    rw [(both_08 m n).resolve_left h] at H0
    refine fn_ok (by kernel_rfl) ty_ok Try.func14 rfl (fun _ _ => Try.call14 _ _) rfl ?_
    intro hw
    clear hw
    exact zw
end Go.Proofs.Ytnjgfhgpicmklaa
