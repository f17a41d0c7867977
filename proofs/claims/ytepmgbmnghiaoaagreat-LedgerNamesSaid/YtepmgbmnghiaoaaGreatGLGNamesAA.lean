import Derived.Test.YtepmgbmnghiaoaaGreatGcAZ
import Derived.Test.YtepmgbmnghiaoaaGreatGcAK
import Derived.Test.YtepmgbmnghiaoaaGreatGcAV
import Derived.Lib.AppendZeros
import Derived.Test.YtepmgbmnghiaoaaGreatGcAT
import Derived.Test.YtepmgbmnghiaoaaGreatGcBA
set_option linter.all false
namespace Go.Proofs.YtepmgbmnghiaoaaGreat
open Go.RowKit Go.Sort Sx
def cutV (x : Lg) (n : Int) : Lg × Lg × Int := if (latV x n).2 = 0 then (⟨x.s, x.al.take n.toNat, x.rs.take n.toNat⟩, ⟨(latV x n).1, x.al.drop n.toNat, x.rs.drop n.toNat⟩, 0) else (lg0, lg0, (latV x n).2)
end Go.Proofs.YtepmgbmnghiaoaaGreat

namespace Go.Proofs.YtepmgbmnghiaoaaGreat
open Go Go.RowKit
namespace Sx
variable {P : Program} {sz : Nat} {E : Env} {H : Hp}
def kpE (ks : List Nat) : List Nat → Env → Env
  | _, [] => []
  | D, (t, x) :: r => match memB t D with
    | true => kpE ks D r
    | false => match memB t ks with | true => (t, x) :: kpE ks (t :: D) r | false => kpE ks (t :: D) r
theorem look_kpE {ks : List Nat} : ∀ {E : Env} {D : List Nat} {t : Nat} {x : SV}, look (kpE ks D E) t = some x → t ∉ D ∧ look E t = some x
  | [], D, t, x, h => by simp [kpE, look] at h
  | (u, y) :: r, D, t, x, h => by
    unfold kpE at h
    rw [look_cons]
    split at h
    · rename_i hm
      obtain ⟨h1, h2⟩ := look_kpE h
      exact ⟨h1, by rw [if_neg (by rintro rfl; exact h1 (memB_iff.1 hm))]; exact h2⟩
    · rename_i hm
      have hm' : u ∉ D := fun h' => by rw [memB_iff.2 h'] at hm; cases hm
      split at h
      · rw [look_cons] at h
        split at h
        · rename_i e
          injection h with h
          subst e h
          exact ⟨hm', by rw [if_pos rfl]⟩
        · obtain ⟨h1, h2⟩ := look_kpE h
          refine ⟨fun h' => h1 (List.mem_cons_of_mem _ h'), ?_⟩
          rename_i e
          rw [if_neg e]; exact h2
      · obtain ⟨h1, h2⟩ := look_kpE h
        exact ⟨fun h' => h1 (List.mem_cons_of_mem _ h'), by rw [if_neg (by rintro rfl; exact h1 (List.mem_cons_self ..))]; exact h2⟩
theorem loop_keep (ks : List Nat) {dm : Bool} {body : Code} {k : Exit → Env → Hp → Prop} (h : frcEnv (kpE ks [] E) fun E1 => LoopP P sz dm body E1 H k) : LoopP P sz dm body E H k :=
  ⟨fun C M0 w0 ρ a w Q hdm R hQ => ((frcEnv_iff _ _).1 h).run C M0 w0 ρ a w Q hdm (R.same (fun t x hx => (look_kpE hx).2) fun _ => rfl) hQ⟩
end Sx
end Go.Proofs.YtepmgbmnghiaoaaGreat

namespace Go.Proofs.YtepmgbmnghiaoaaGreat
open Go Go.RowKit Go.Sort Sx
set_option maxHeartbeats 4000000 in
set_option maxRecDepth 100000 in
theorem growAk_run (n : Nat) (w : World) (h0 : 0 < n) (h1 : n ≤ 1000000) : Calls Tryz.prog 124 #[.slice none 0 0, .int .i64 n] w fun e w' => ∃ (G : Nat) (row : List Value), e = .returned (.slice (some ⟨w.heap.size, 0, none⟩) 0 G) ∧ G ≤ 9223372036854775807 ∧ Below w.heap.size w w' ∧ w.heap.size < w'.heap.size ∧ row.length = G * 7 ∧ CellsAt w' w.heap.size row := by
  obtain ⟨e, he, hsz, _, _, ti, z, hi0, hsz0, hz0, hzs, _, hby⟩ := (ty_ok 33 (.sl 7 true [.v (.int .u8 0), .v (.int .i64 0), .v (.int .i64 0), .v (.int .i64 0), .v (.int .i64 0), .v (.int .i64 0), .v (.int .i64 0)]) rfl).2.2.2
  have hee : e = 32 := by
    have := he.symm.trans Tryz.underlying33
    injection this with this; injection this
  subst hee
  have h48 : n * ti.bytes ≤ 281474976710656 := by
    have : n * ti.bytes ≤ 1000000 * 65536 := Nat.mul_le_mul h1 hby
    omega
  have hrz := fun ty => Lib.run_append_nil_zeros (P := Tryz.prog) w 33 3 ty 32 ti z .i64 .i64 Tryz.underlying33 Tryz.underlying3 hi0 hz0 n h0 (by omega) (by omega) h48
  have hG : n ≤ grownCap w n 0 32 := grownCap_ge w _ _ _
  have hG63 : grownCap w n 0 32 ≤ 9223372036854775807 := by
    have := grownCap_le_maxLen w n 0 32 (by unfold maxLen; omega)
    unfold maxLen at this
    omega
  generalize grownCap w n 0 32 = G at *
  obtain ⟨ROW, hROW⟩ : ∃ ROW : Array Value, ROW = Builtin.zeroCells z.cells n ++ Builtin.zeroCells z.cells (G - n) := ⟨_, rfl⟩
  rw [← hROW] at hrz
  have hRl : ROW.toList.length = G * 7 := by
    rw [hROW]
    simp only [Array.toList_append, List.length_append, Array.length_toList, size_zeroCells, hzs]
    omega
  obtain ⟨W1, hW1⟩ : ∃ W1, W1 = w.drew.alloc (.cells ROW 32) := ⟨_, rfl⟩
  rw [← hW1] at hrz
  have c0 : CellsAt W1 w.heap.size ROW.toList := ⟨32, by rw [hW1]; exact (heap_alloc_new w.drew _)⟩
  have hB1 : Below w.heap.size w W1 := by rw [hW1]; exact below_drew_alloc w _
  have hs1 : w.heap.size < W1.heap.size := by rw [hW1]; simp
  have FIN : Hid (Below w.heap.size w W1 ∧ w.heap.size < W1.heap.size ∧ CellsAt W1 w.heap.size ROW.toList) := Lib.hid ⟨hB1, hs1, c0⟩
  have hw1 : IntKind.i64.wrap (n : Int) = (n : Int) := by rw [IntKind.wrap_i64]; omega
  have hp : (0 : Int) < (n : Int) := by omega
  have hn : ¬ ((n : Int) < 0) := by omega
  have mixed : Tryz.prog.follows .mixedOrders = true := by kernel_rfl
  clear hROW hW1 hB1 hs1 c0
  go_enter Tryz.func124, Tryz.ntmps124
  go_wp2_with (at_builtin; refine Lib.wpList_append_run _ rfl _ _ _ _ rfl _ _ rfl rfl _ _ (hrz _) ?_)
  go_ret
  exact ⟨G, rfl, hG63, FIN.out.1, FIN.out.2.1, ROW.toList, hRl, FIN.out.2.2⟩
set_option maxHeartbeats 4000000 in
set_option maxRecDepth 100000 in
theorem growAk_run0 (w : World) : Calls Tryz.prog 124 #[.slice none 0 0, .int .i64 0] w fun e w' => e = .returned (.slice none 0 0) ∧ w' = w := by
  have mixed : Tryz.prog.follows .mixedOrders = true := by kernel_rfl
  go_enter Tryz.func124, Tryz.ntmps124
  go_wp2
  go_ret
  exact ⟨rfl, rfl⟩
theorem growAk_own (n : Nat) (h1 : n ≤ 1000000) : FnOwn Tryz.prog 124 [.one (.v (.slice none 0 0)), .one (i64 n)] (ownL 7 []) := by
  intro w M vs hM hd
  match vs, hd with
  | [v1, v2], hd =>
    have k1 : Rep w M (.v (.slice none 0 0)) v1 := hd.1
    have k2 : Rep w M (.v (.int .i64 n)) v2 := hd.2.1
    cases k1
    cases k2
    rcases Nat.eq_zero_or_pos n with rfl | h0
    · refine ⟨124, Tryz.call124 _ _, (growAk_run0 w).mono ?_⟩
      rintro e w' ⟨rfl, rfl⟩
      exact ⟨_, ⟨false, 0, 0, 0, 0⟩, rfl, Below.refl _ _, rfl, rfl, fun h => absurd h (Nat.lt_irrefl _), ⟨rfl, rfl, Nat.le_refl _, fun _ => ⟨none, rfl, fun h => absurd h (Nat.lt_irrefl _)⟩⟩, ⟨by simp, rfl, fun _ => rfl, rfl, rfl⟩, fun h => by simp [Blk.real] at h⟩
    · refine ⟨124, Tryz.call124 _ _, (growAk_run n w h0 h1).mono ?_⟩
      rintro e w' ⟨G, row, rfl, hG, hB, hs, hl, hc⟩
      exact ⟨_, ⟨false, w.heap.size, G, 0, 0⟩, rfl, hB, rfl, rfl, fun _ => ⟨Nat.le_refl _, hs⟩, ⟨rfl, rfl, Nat.le_refl _, fun _ => ⟨_, rfl, fun _ => rfl⟩⟩, ⟨by simp, rfl, fun _ => rfl, rfl, rfl⟩, fun _ => ⟨row, hc, Nat.zero_le _, hG, hl, [], row, rfl, trivial⟩⟩
abbrev lol (L : List (List (List D))) : D := .list 1 (L.map fun x => [.list 7 x])
theorem lol_get {L : List (List (List D))} {i : Nat} (h : i < L.length) : (L.map fun x => [D.list 7 x])[((i : Nat) : Int).toNat]? = some [.list 7 L[i]] := by
  rw [Int.toNat_natCast, List.getElem?_map, List.getElem?_eq_getElem h]; rfl
theorem flat_succ {α : Type} {L : List (List α)} {i : Nat} (h : i < L.length) : (L.take (i + 1)).flatten = (L.take i).flatten ++ L[i] := by
  rw [List.take_succ_eq_append_getElem h, List.flatten_append]; simp
theorem flat_le {α : Type} (L : List (List α)) (i : Nat) : (L.take i).flatten.length ≤ L.flatten.length := by
  conv => rhs; rw [← List.take_append_drop i L, List.flatten_append, List.length_append]
  omega
set_option maxRecDepth 100000 in
set_option maxHeartbeats 4000000 in
theorem catAk_own (L : List (List (List D))) (h1 : L.flatten.length ≤ 1000000) (h2 : L.length ≤ 1000000) : FnOwn Tryz.prog 87 [.one (lol L)] (ownL 7 L.flatten) := by
  have hL : (L.map fun x => [D.list 7 x]).length = L.length := List.length_map ..
  refine fn_own (by kernel_rfl) (ty_okK [24, 33] [] [] []) Tryz.func87 rfl (fun _ _ => Tryz.call87 _ _) rfl ?_
  intro hw
  clear hw
  repeat' ((conv => whnf); first | (with_reducible first | refine br_t ?_ | refine br_f ?_ | refine za ?_ | refine zg ?_ | refine zo ?_) | rw [hL] | refine zp ?_ | refine zq ?_ | (with_reducible first | refine bc (fun h => ?_) (fun h => ?_) | refine zt ?_ | refine zf ?_ | refine br_i (fun h => ?_) (fun h => ?_)) | refine zg ?_ | refine zi ?_ | refine zb ?_ | refine zl ?_)
  refine loop_J (by kernel_rfl) (ty_okK [24, 33] [] [] []) (σ := Nat) (fun i => [(11, sV (.int .i64 i)), (3, sV (.int .i64 ((L.take i).flatten.length : Nat)))]) (fun _ => []) (fun i => i ≤ L.length) (fun i => L.length - i) 0 (Nat.zero_le _) ?_ ?_
  · (conv => whnf); exact zent
  intro i hi
  rcases Nat.lt_or_ge i L.length with hlt | hge
  · have hel := lol_get hlt
    have e1 := congrArg List.length (flat_succ hlt)
    rw [List.length_append] at e1
    have e2 := flat_le L (i + 1)
    generalize (L.take i).flatten.length = c at *
    obtain ⟨d, hdd⟩ : ∃ d, d = (L.take (i + 1)).flatten.length := ⟨_, rfl⟩
    rw [← hdd] at e1 e2
    have hwr : IntKind.i64.wrap ((c : Int) + (L[i].length : Int)) = (d : Int) := by rw [IntWalk.i64_in _ (by omega)]; omega
    generalize L[i] = x at *
    repeat' ((conv => whnf); first | (with_reducible first | refine br_t ?_ | refine br_f ?_ | refine za ?_ | refine zg ?_ | refine zo ?_) | rw [hL] | rw [hwr] | refine zp ?_ | refine zq ?_ | (with_reducible first | refine bc (fun h => ?_) (fun h => ?_) | refine zt ?_ | refine zf ?_ | refine br_i (fun h => ?_) (fun h => ?_)) | refine zg ?_ | refine zi ?_ | refine zb ?_ | refine zl ?_)
    all_goals conv => whnf
    refine ⟨i + 1, by omega, ?_, by omega⟩
    (conv => whnf); exact zent
  · obtain rfl : i = L.length := by omega
    have HG := growAk_own L.flatten.length h1
    have eF : (L.take L.length).flatten = L.flatten := by rw [List.take_length]
    rw [eF]
    repeat' ((conv => whnf); first | (with_reducible first | refine br_t ?_ | refine br_f ?_ | refine za ?_ | refine zg ?_ | refine zo ?_) | rw [hL] | refine zp ?_ | refine zq ?_ | (with_reducible first | refine bc (fun h => ?_) (fun h => ?_) | refine zt ?_ | refine zf ?_ | refine br_i (fun h => ?_) (fun h => ?_)) | refine zg ?_ | refine zi ?_ | refine zb ?_ | refine zl ?_)
    refine loop_keep [2, 6, 25, 26, 27] ?_
    conv => whnf
    refine loop_J (by kernel_rfl) (ty_okK [24, 33] [] [] []) (σ := Nat) (fun i => [(27, sV (.int .i64 i)), (6, .c (.at (.osl 24 0)))]) (fun i => [(24, .row 7 (L.take i).flatten 0)]) (fun i => i ≤ L.length) (fun i => L.length - i) 0 (Nat.zero_le _) ?_ ?_
    · (conv => whnf); exact zent
    intro i hi
    rcases Nat.lt_or_ge i L.length with hlt | hge
    · have hel := lol_get hlt
      have hs := (flat_succ hlt).symm
      have e1 := congrArg List.length hs
      rw [List.length_append] at e1
      have e2 := flat_le L (i + 1)
      generalize (L.take i).flatten = c at *
      generalize L[i] = x at *
      repeat' ((conv => whnf); first | (with_reducible first | refine br_t ?_ | refine br_f ?_ | refine za ?_ | refine zg ?_ | refine zo ?_) | rw [hL] | refine zp ?_ | refine zq ?_ | (with_reducible first | refine bc (fun h => ?_) (fun h => ?_) | refine zt ?_ | refine zf ?_ | refine br_i (fun h => ?_) (fun h => ?_)) | refine zg ?_ | refine zi ?_ | refine zb ?_ | refine zl ?_)
      all_goals conv => whnf
      refine ⟨i + 1, by omega, ?_, by omega⟩
      (conv => whnf); refine ⟨by repeat' (first | with_reducible exact zE0 | with_reducible refine zE1 ?_ ?_ | rfl | assumption | ((exact congrArg (fun x => some (Blk.row 7 x 0)) hs)) | exact zi1 | exact zb1), by repeat' (first | with_reducible exact zH0 | with_reducible refine zH1 ?_ ?_ | rfl | assumption | ((exact congrArg (fun x => some (Blk.row 7 x 0)) hs))), rfl⟩
    · obtain rfl : i = L.length := by omega
      rw [List.take_length]
      repeat' ((conv => whnf); first | (with_reducible first | refine br_t ?_ | refine br_f ?_ | refine za ?_ | refine zg ?_ | refine zo ?_) | rw [hL] | refine zp ?_ | refine zq ?_ | (with_reducible first | refine bc (fun h => ?_) (fun h => ?_) | refine zt ?_ | refine zf ?_ | refine br_i (fun h => ?_) (fun h => ?_)) | refine zg ?_ | refine zi ?_ | refine zb ?_ | refine zl ?_)
      all_goals conv => whnf
      exact .inl ⟨24, 0, _, rfl, rfl, rfl⟩
end Go.Proofs.YtepmgbmnghiaoaaGreat

namespace Go.Proofs.YtepmgbmnghiaoaaGreat
open Go.RowKit Go.Sort Sx
theorem eqPt_fn (a b : List Pt) : FnOK Tryz.prog 85 [.one (pts a), .one (pts b)] (.c (.one (bol (decide (a = b))))) := by
  refine fn_ok (by kernel_rfl) ty_ok Tryz.func85 rfl (fun _ _ => Tryz.call85 _ _) rfl ?_
  intro hw
  simp only [WDCs, WDC, WDs] at hw
  obtain ⟨w1, _⟩ := wd_pts hw.1
  obtain ⟨w2, _⟩ := wd_pts hw.2.1
  clear hw
  by_cases h0 : a.length = b.length
  · repeat' ((conv => whnf); first | (with_reducible first | refine br_t ?_ | refine br_f ?_ | refine za ?_ | refine zg ?_) | rw [List.length_map] | refine zp ?_ | refine zq ?_ | (with_reducible first | refine bc (fun h => ?_) (fun h => ?_) | refine zt ?_ | refine zf ?_ | refine br_i (fun h => ?_) (fun h => ?_) | refine xi (pv_bool fun _ => nev30 _ _ _ _ _ _ _ _ _) ?_) | refine zg ?_ | refine zi ?_ | refine zb ?_)
    refine loop_J (by kernel_rfl) ty_ok (σ := Nat) (fun i => [(13, sV (.int .i64 i))]) (fun _ => []) (fun i => i ≤ a.length ∧ a.take i = b.take i) (fun i => a.length - i) 0 ⟨by omega, rfl⟩ ?_ ?_
    · (conv => whnf); exact zent
    rintro i ⟨hi, hI⟩
    rcases Nat.lt_or_ge i a.length with hlt | hge
    · have hb : i < b.length := by omega
      have he1 := pts_get hlt
      have he2 := pts_get hb
      by_cases hc : a[i] = b[i]
      · have hq := Pt.eq_iff.1 hc
        repeat' ((conv => whnf); first | (with_reducible first | refine br_t ?_ | refine br_f ?_ | refine za ?_ | refine zg ?_) | rw [List.length_map] | refine zp ?_ | refine zq ?_ | (with_reducible first | refine bc (fun h => ?_) (fun h => ?_) | refine zt ?_ | refine zf ?_ | refine br_i (fun h => ?_) (fun h => ?_) | refine xi (pv_bool fun _ => nev30 _ _ _ _ _ _ _ _ _) ?_) | refine zg ?_ | refine zi ?_ | refine zb ?_)
        all_goals conv => whnf
        refine ⟨i + 1, ⟨by omega, take_succ_eq hI hlt hb hc⟩, ?_, by omega⟩
        (conv => whnf); exact zent
      · have hq := mt Pt.eq_iff.2 hc
        rw [decide_eq_false (ne_of_get hlt hb hc)]
        repeat' ((conv => whnf); first | (with_reducible first | refine br_t ?_ | refine br_f ?_ | refine za ?_ | refine zg ?_) | rw [List.length_map] | refine zp ?_ | refine zq ?_ | (with_reducible first | refine bc (fun h => ?_) (fun h => ?_) | refine zt ?_ | refine zf ?_ | refine br_i (fun h => ?_) (fun h => ?_) | refine xi (pv_bool fun _ => nev30 _ _ _ _ _ _ _ _ _) ?_) | refine zg ?_ | refine zi ?_ | refine zb ?_)
        all_goals conv => whnf
        all_goals rfl
    · rw [decide_eq_true (take_all_eq hI h0 hge)]
      repeat' ((conv => whnf); first | (with_reducible first | refine br_t ?_ | refine br_f ?_ | refine za ?_ | refine zg ?_) | rw [List.length_map] | refine zp ?_ | refine zq ?_ | (with_reducible first | refine bc (fun h => ?_) (fun h => ?_) | refine zt ?_ | refine zf ?_ | refine br_i (fun h => ?_) (fun h => ?_) | refine xi (pv_bool fun _ => nev30 _ _ _ _ _ _ _ _ _) ?_) | refine zg ?_ | refine zi ?_ | refine zb ?_)
      all_goals conv => whnf
      all_goals rfl
  · rw [decide_eq_false (fun h => h0 (congrArg List.length h))]
    repeat' ((conv => whnf); first | (with_reducible first | refine br_t ?_ | refine br_f ?_ | refine za ?_ | refine zg ?_) | rw [List.length_map] | refine zp ?_ | refine zq ?_ | (with_reducible first | refine bc (fun h => ?_) (fun h => ?_) | refine zt ?_ | refine zf ?_ | refine br_i (fun h => ?_) (fun h => ?_) | refine xi (pv_bool fun _ => nev30 _ _ _ _ _ _ _ _ _) ?_) | refine zg ?_ | refine zi ?_ | refine zb ?_)
    all_goals conv => whnf
    all_goals rfl
end Go.Proofs.YtepmgbmnghiaoaaGreat

namespace Go.Proofs.YtepmgbmnghiaoaaGreat
open Go Go.RowKit Go.Sort Sx
theorem cloneRp_own (l : List (List D)) (hl : l.length ≤ 1000000) : FnOwn Tryz.prog 127 [.one (.list 6 l)] (ownL 6 l) := by
  cases l with
  | nil =>
    refine own_list ?_ ?_
    · refine fn_own (by kernel_rfl) (ty_okK [7] [] [] []) Tryz.func127 rfl (fun _ _ => Tryz.call127 _ _) rfl ?_
      intro hw
      repeat' ((conv => whnf); first | (with_reducible first | refine br_t ?_ | refine br_f ?_ | refine za ?_ | refine zg ?_ | refine zo ?_) | refine zp ?_ | refine zq ?_ | (with_reducible first | refine bc (fun h => ?_) (fun h => ?_) | refine zt ?_ | refine zf ?_ | refine br_i (fun h => ?_) (fun h => ?_)) | refine zg ?_ | refine zi ?_ | refine zb ?_ | refine zl ?_)
      all_goals conv => whnf
      exact .inr ⟨100, _, _, rfl, rfl, rfl, rfl, rfl⟩
    · refine fn_own (by kernel_rfl) (ty_okK [7] [] [] []) Tryz.func127 rfl (fun _ _ => Tryz.call127 _ _) rfl ?_
      intro hw
      repeat' ((conv => whnf); first | (with_reducible first | refine br_t ?_ | refine br_f ?_ | refine za ?_ | refine zg ?_ | refine zo ?_) | refine zp ?_ | refine zq ?_ | (with_reducible first | refine bc (fun h => ?_) (fun h => ?_) | refine zt ?_ | refine zf ?_ | refine br_i (fun h => ?_) (fun h => ?_)) | refine zg ?_ | refine zi ?_ | refine zb ?_ | refine zl ?_)
      all_goals conv => whnf
      exact .inl ⟨5, 1, _, rfl, rfl, rfl⟩
  | cons x xs =>
    refine fn_own (by kernel_rfl) (ty_okK [7] [] [] []) Tryz.func127 rfl (fun _ _ => Tryz.call127 _ _) rfl ?_
    intro hw
    simp only [List.length_cons] at hl
    repeat' ((conv => whnf); first | (with_reducible first | refine br_t ?_ | refine br_f ?_ | refine za ?_ | refine zg ?_ | refine zo ?_) | refine zp ?_ | refine zq ?_ | (with_reducible first | refine bc (fun h => ?_) (fun h => ?_) | refine zt ?_ | refine zf ?_ | refine br_i (fun h => ?_) (fun h => ?_)) | refine zg ?_ | refine zi ?_ | refine zb ?_ | refine zl ?_)
    all_goals conv => whnf
    exact .inl ⟨5, 1, _, rfl, rfl, rfl⟩
theorem cloneMt_own (l : List (List D)) (hl : l.length ≤ 1000000) : FnOwn Tryz.prog 128 [.one (.list 4 l)] (ownL 4 l) := by
  cases l with
  | nil =>
    refine own_list ?_ ?_
    · refine fn_own (by kernel_rfl) (ty_okK [7] [] [] []) Tryz.func128 rfl (fun _ _ => Tryz.call128 _ _) rfl ?_
      intro hw
      repeat' ((conv => whnf); first | (with_reducible first | refine br_t ?_ | refine br_f ?_ | refine za ?_ | refine zg ?_ | refine zo ?_) | refine zp ?_ | refine zq ?_ | (with_reducible first | refine bc (fun h => ?_) (fun h => ?_) | refine zt ?_ | refine zf ?_ | refine br_i (fun h => ?_) (fun h => ?_)) | refine zg ?_ | refine zi ?_ | refine zb ?_ | refine zl ?_)
      all_goals conv => whnf
      exact .inr ⟨100, _, _, rfl, rfl, rfl, rfl, rfl⟩
    · refine fn_own (by kernel_rfl) (ty_okK [7] [] [] []) Tryz.func128 rfl (fun _ _ => Tryz.call128 _ _) rfl ?_
      intro hw
      repeat' ((conv => whnf); first | (with_reducible first | refine br_t ?_ | refine br_f ?_ | refine za ?_ | refine zg ?_ | refine zo ?_) | refine zp ?_ | refine zq ?_ | (with_reducible first | refine bc (fun h => ?_) (fun h => ?_) | refine zt ?_ | refine zf ?_ | refine br_i (fun h => ?_) (fun h => ?_)) | refine zg ?_ | refine zi ?_ | refine zb ?_ | refine zl ?_)
      all_goals conv => whnf
      exact .inl ⟨5, 1, _, rfl, rfl, rfl⟩
  | cons x xs =>
    refine fn_own (by kernel_rfl) (ty_okK [7] [] [] []) Tryz.func128 rfl (fun _ _ => Tryz.call128 _ _) rfl ?_
    intro hw
    simp only [List.length_cons] at hl
    repeat' ((conv => whnf); first | (with_reducible first | refine br_t ?_ | refine br_f ?_ | refine za ?_ | refine zg ?_ | refine zo ?_) | refine zp ?_ | refine zq ?_ | (with_reducible first | refine bc (fun h => ?_) (fun h => ?_) | refine zt ?_ | refine zf ?_ | refine br_i (fun h => ?_) (fun h => ?_)) | refine zg ?_ | refine zi ?_ | refine zb ?_ | refine zl ?_)
    all_goals conv => whnf
    exact .inl ⟨5, 1, _, rfl, rfl, rfl⟩
end Go.Proofs.YtepmgbmnghiaoaaGreat

namespace Go.Proofs.YtepmgbmnghiaoaaGreat
open Go Go.RowKit Go.Sort Sx
theorem ldP_eq {l : List Pt} {n m : Int} {p : Pt} (hp : p ∈ l) (h : ∀ q ∈ l, q ≠ p → ldr n m p q) : ldP l n m = p := by
  have h1 := srt_sorted n m l
  have h2 := (srt_perm n m l).mem_iff (a := p)
  have h3 := fun x => (srt_perm n m l).mem_iff (a := x)
  unfold ldP
  cases hs : srt n m l with
  | nil => rw [hs] at h2; exact absurd (h2.2 hp) (by simp)
  | cons x r =>
    rw [hs] at h1 h2 h3
    show x = p
    by_cases e : x = p
    · exact e
    · exfalso
      have hx := h x ((h3 x).1 (List.mem_cons_self ..)) e
      rcases List.mem_cons.1 (h2.2 hp) with rfl | hr
      · exact e rfl
      · exact (List.pairwise_cons.1 h1).1 p hr hx
theorem askV_lead {m : Md} {p : Pt} (h : m.l.length ≠ 0) (hp : ldP m.l m.n m.d = p) : askV m ⟨5, ⟨0, 0, 0⟩, 0, 0, 0⟩ = (m, ⟨0, p.id, 0, (plc p m.n m.d).1, (plc p m.n m.d).2, []⟩) := by
  unfold askV
  rw [if_pos (by decide), if_neg (by decide), if_neg (by decide), if_neg (by decide), if_neg (by decide), if_pos rfl, if_neg h, hp]
end Go.Proofs.YtepmgbmnghiaoaaGreat

namespace Go.Proofs.YtepmgbmnghiaoaaGreat
open Go Go.RowKit Go.Sort Sx
abbrev gxM : Md := ⟨0, 1, []⟩
abbrev gxN : Md := ⟨0, 1, [⟨1, 0, 0⟩]⟩
abbrev gxL : List Ak := [⟨1, ⟨1, 0, 0⟩, 0, 0, 0⟩, ⟨5, ⟨0, 0, 0⟩, 0, 0, 0⟩]
abbrev gxR : List Rp := [rp0, ⟨0, 1, 0, 0, 1, []⟩]
theorem gx_put : askV gxM ⟨1, ⟨1, 0, 0⟩, 0, 0, 0⟩ = (gxN, rp0) := by decide
theorem gx_lead : askV gxN ⟨5, ⟨0, 0, 0⟩, 0, 0, 0⟩ = (gxN, ⟨0, 1, 0, 0, 1, []⟩) := by
  rw [askV_lead (p := ⟨1, 0, 0⟩) (by decide) (ldP_eq (by decide) (by decide))]
  decide
theorem gx_run : runs gxM gxL = (gxN, gxR) := by
  simp only [gxL, runs, gx_put, gx_lead]
theorem gx_rec : recV gxM gxL = (⟨gxM, gxL, gxR⟩, 0) := by
  unfold recV
  rw [if_pos (by decide), if_neg (by decide), gx_run]
theorem gx_chk : lchk ⟨gxM, gxL, gxR⟩ = 0 := by
  have := lchk_mk (m := gxM) (l := gxL) (by decide) (by decide)
  rw [gx_run] at this
  exact this
theorem gx_at1 : latV ⟨gxM, gxL, gxR⟩ 1 = (gxN, 0) := by
  unfold latV
  rw [if_pos gx_chk, if_neg (by decide)]
  show ((runs gxM [⟨1, ⟨1, 0, 0⟩, 0, 0, 0⟩]).1, 0) = _
  simp only [runs, gx_put]
theorem gx_at2 : latV ⟨gxM, gxL, gxR⟩ 2 = (gxN, 0) := by
  unfold latV
  rw [if_pos gx_chk, if_neg (by decide)]
  show ((runs gxM gxL).1, 0) = _
  rw [gx_run]
theorem gx_wrg : wrg gxM gxL [rp0, ⟨0, 2, 0, 0, 1, []⟩] = some 1 := by
  simp only [gxL, wrg, gx_put, gx_lead]
  rw [if_pos trivial, if_neg (by decide)]
  rfl
theorem gx_wrong : wrongV ⟨gxM, gxL, [rp0, ⟨0, 2, 0, 0, 1, []⟩]⟩ = (1, 0) := by
  unfold wrongV
  rw [if_pos (by decide)]
  unfold wrgI
  rw [gx_wrg]
  rfl
theorem gx_wchk : lchk ⟨gxM, gxL, [rp0, ⟨0, 2, 0, 0, 1, []⟩]⟩ = 36 := by
  unfold lchk
  rw [if_pos (by decide), gx_wrg]
  rfl
theorem GLat_fn (n : Int) : FnOK Tryz.prog 53 [.one (i64 n)] (.c (rat n 1)) := by
  refine fn_ok (by kernel_rfl) ty_ok Tryz.func53 rfl (fun _ _ => Tryz.call53 _ _) rfl ?_
  intro hw
  clear hw
  exact zw
theorem GLgiven_fn : FnOK Tryz.prog 52 [] (.tup [gxM.dc, .one (aks gxL)]) := by
  have A1 := GLat_fn 0
  refine fn_ok (by kernel_rfl) ty_ok Tryz.func52 rfl (fun _ _ => Tryz.call52 _ _) rfl ?_
  intro hw
  clear hw
  exact zw
set_option maxRecDepth 100000 in
set_option maxHeartbeats 8000000 in
theorem GLalive_fn : FnOK Tryz.prog 39 [] (.c (.one (bol true))) := by
  have A1 := GLat_fn 0
  have A2 := GLgiven_fn
  have B := gRecord_fn gxM gxL
  rw [gx_rec] at B
  have T := rgTwin_own ⟨gxM, gxL, gxR⟩ (by decide) (by decide) (by decide) (by decide)
  have W1 := gWrong_fn ⟨gxM, gxL, [rp0, ⟨0, 2, 0, 0, 1, []⟩]⟩
  rw [gx_wrong] at W1
  have W2 := gCheck_fn ⟨gxM, gxL, [rp0, ⟨0, 2, 0, 0, 1, []⟩]⟩
  rw [gx_wchk] at W2
  have C1 := gAt_fn ⟨gxM, gxL, gxR⟩ 1
  rw [gx_at1] at C1
  have C2 := gAt_fn ⟨gxM, gxL, gxR⟩ 2
  rw [gx_at2] at C2
  have S1 := rgSame_fn ⟨gxM, gxL, gxR⟩ ⟨gxM, gxL, gxR⟩
  have S2 := roSameModel_fn gxN gxN
  simp only [decide_true, retG, ret2, Lg.dc, Md.dc, aks, rps, pts, List.map_cons, List.map_nil, Ak.c, Rp.c, Pt.c, rp0, mts] at A2 B T W1 W2 C1 C2 S1 S2
  refine fn_ok (by kernel_rfl) (ty_okK [31] [] [] []) Tryz.func39 rfl (fun _ _ => Tryz.call39 _ _) rfl ?_
  intro hw
  clear hw
  repeat' ((conv => whnf); first | (with_reducible first | refine br_t ?_ | refine br_f ?_ | refine za ?_ | refine zg ?_ | refine zo ?_) | refine ⟨_, ⟨rfl, Nat.le_of_ble_eq_true rfl⟩, ?_⟩ | refine zl ?_ | refine zp ?_ | refine zq ?_ | (with_reducible first | refine bc (fun h => ?_) (fun h => ?_) | refine zt ?_ | refine zf ?_ | refine br_i (fun h => ?_) (fun h => ?_)) | refine zg ?_ | refine zi ?_ | refine zb ?_ | refine zl ?_)
  all_goals conv => whnf
  all_goals rfl
end Go.Proofs.YtepmgbmnghiaoaaGreat

namespace Go.Proofs.YtepmgbmnghiaoaaGreat
open Go Go.RowKit Go.Sort Sx
theorem set_same {α : Type} {l : List α} {i : Nat} (h : i < l.length) : l.set i l[i] = l := by simp
theorem gcopied_own (l : List Rp) (hl : l.length ≤ 1000000) (hm : ∀ r ∈ l, r.ms.length ≤ 1000000) : FnOwn Tryz.prog 91 [.one (rps l)] (ownL 6 (l.map Rp.c)) := by
  have H := cloneRp_own (l.map Rp.c) (by simpa using hl)
  have hol : (l.map Rp.c).length = l.length := List.length_map ..
  refine fn_own (by kernel_rfl) (ty_okK [6] [] [] []) Tryz.func91 rfl (fun _ _ => Tryz.call91 _ _) rfl ?_
  intro hw
  clear hw
  repeat' ((conv => whnf); first | (with_reducible first | refine br_t ?_ | refine br_f ?_ | refine za ?_ | refine zg ?_ | refine zo ?_) | rw [hol] | refine zp ?_ | refine zq ?_ | (with_reducible first | refine bc (fun h => ?_) (fun h => ?_) | refine zt ?_ | refine zf ?_ | refine br_i (fun h => ?_) (fun h => ?_)) | refine zg ?_ | refine zi ?_ | refine zb ?_ | refine zl ?_)
  refine loop_keep [2, 3, 5, 7, 8, 9] ?_
  conv => whnf
  refine loop_J (by kernel_rfl) (ty_okK [6] [] [] []) (σ := Nat) (fun i => [(9, sV (.int .i64 i)), (3, .c (.at (.osl 6 0)))]) (fun i => [(6, .row 6 (l.map Rp.c) 0)]) (fun i => i ≤ l.length) (fun i => l.length - i) 0 (Nat.zero_le _) ?_ ?_
  · (conv => whnf); exact zent
  intro i hi
  rcases Nat.lt_or_ge i l.length with hlt | hge
  · have hel := rps_get hlt
    have HC := ok_of_own (cloneMt_own (l[i].ms.map Mt.c) (by rw [List.length_map]; exact hm _ (List.getElem_mem hlt)))
    have hs : (l.map Rp.c).set ((i : Nat) : Int).toNat [i64 l[i].e, i64 l[i].i, i64 l[i].j, i64 l[i].n, i64 l[i].d, mts l[i].ms] = l.map Rp.c := by
      have e := set_same (l := l.map Rp.c) (i := i) (by rw [hol]; exact hlt)
      rw [List.getElem_map] at e
      rw [Int.toNat_natCast]
      exact e
    repeat' ((conv => whnf); first | (with_reducible first | refine br_t ?_ | refine br_f ?_ | refine za ?_ | refine zg ?_ | refine zo ?_) | rw [hol] | refine zp ?_ | refine zq ?_ | (with_reducible first | refine bc (fun h => ?_) (fun h => ?_) | refine zt ?_ | refine zf ?_ | refine br_i (fun h => ?_) (fun h => ?_)) | refine zg ?_ | refine zi ?_ | refine zb ?_ | refine zl ?_)
    all_goals conv => whnf
    refine ⟨i + 1, by omega, ?_, by omega⟩
    (conv => whnf); refine ⟨by repeat' (first | with_reducible exact zE0 | with_reducible refine zE1 ?_ ?_ | rfl | assumption | ((exact congrArg (fun x => some (Blk.row 6 x 0)) hs)) | exact zi1 | exact zb1), by repeat' (first | with_reducible exact zH0 | with_reducible refine zH1 ?_ ?_ | rfl | assumption | ((exact congrArg (fun x => some (Blk.row 6 x 0)) hs))), rfl⟩
  · obtain rfl : i = l.length := by omega
    repeat' ((conv => whnf); first | (with_reducible first | refine br_t ?_ | refine br_f ?_ | refine za ?_ | refine zg ?_ | refine zo ?_) | rw [hol] | refine zp ?_ | refine zq ?_ | (with_reducible first | refine bc (fun h => ?_) (fun h => ?_) | refine zt ?_ | refine zf ?_ | refine br_i (fun h => ?_) (fun h => ?_)) | refine zg ?_ | refine zi ?_ | refine zb ?_ | refine zl ?_)
    all_goals conv => whnf
    exact .inl ⟨6, 0, _, rfl, rfl, rfl⟩
end Go.Proofs.YtepmgbmnghiaoaaGreat

namespace Go.Proofs.YtepmgbmnghiaoaaGreat
open Go.RowKit Go.Sort Sx
structure Dis (l : List Pt) : Prop where
  ok : ∀ p ∈ l, p.chk = 0
  ne : l.Pairwise fun p q => p.id ≠ q.id
end Go.Proofs.YtepmgbmnghiaoaaGreat

namespace Go.Proofs.YtepmgbmnghiaoaaGreat
open Go.RowKit Go.Sort Sx
structure Uk where
  k : Int
  id : Int
  deriving DecidableEq, Inhabited
def Uk.c (u : Uk) : List D := [u8 u.k, i64 u.id]
abbrev Uk.dc (u : Uk) : DC := .agg [u8 u.k, i64 u.id]
structure Un where
  k : Int
  id : Int
  p : Pt
  deriving DecidableEq, Inhabited
def Un.c (u : Un) : List D := [u8 u.k, i64 u.id, i64 u.p.id, i64 u.p.a, i64 u.p.b]
def Un.u (u : Un) : Uk := ⟨u.k, u.id⟩
def lk (l : List Pt) (id : Int) : Option Pt := l.find? fun p => p.id == id
def Uk.turn (u : Uk) : Uk := if u.k = 2 then ⟨3, u.id⟩ else if u.k = 3 then ⟨2, u.id⟩ else u
end Go.Proofs.YtepmgbmnghiaoaaGreat

namespace Go.Proofs.YtepmgbmnghiaoaaGreat
open Go.RowKit Go.Sort Sx
end Go.Proofs.YtepmgbmnghiaoaaGreat

namespace Go.Proofs.YtepmgbmnghiaoaaGreat
open Go.RowKit Go.Sort Sx
theorem runs_get {m : Md} {l : List Ak} {i : Nat} (h : i < l.length) (h' : i < (runs m l).2.length) : (runs m l).2[i] = (askV (runs m (l.take i)).1 l[i]).2 := by
  have e := runs_drop m l i
  rw [List.drop_eq_getElem_cons h, List.drop_eq_getElem_cons h', runs] at e
  injection e with e1 _
  exact e1.symm
end Go.Proofs.YtepmgbmnghiaoaaGreat

namespace Go.Proofs.YtepmgbmnghiaoaaGreat
open Go Go.RowKit Go.Sort Sx
theorem askV_ms {m : Md} (h : mchk m = 0) (a : Ak) : (askV m a).2.ms.length ≤ 4096 := by
  obtain ⟨g1, g2⟩ := mchk_ok h
  have hb : ∀ n e r t, (btw (allM m.l) n e r t).length ≤ 4096 := fun n e r t => by
    unfold btw; rw [List.length_drop, List.length_take]; have : (allM m.l).length ≤ 4096 := by rw [msrt_len]; exact outs_len2 (fchk_ok g2).1
    omega
  unfold askV
  repeat' split
  all_goals first | exact Nat.zero_le _ | exact hb _ _ _ _
theorem runs_ms {m : Md} (h : mchk m = 0) (l : List Ak) : ∀ r ∈ (runs m l).2, r.ms.length ≤ 4096 := fun r hr => by
  obtain ⟨i, hi, rfl⟩ := List.getElem_of_mem hr
  have hl := runs_len m l
  rw [runs_get (by omega) hi]
  exact askV_ms (runs_ok _ h) _
abbrev retCut (x : Lg × Lg × Int) : DV := .tup [x.1.dc, x.2.1.dc, .one (i64 x.2.2)]
theorem gCut_fn (x : Lg) (n : Int) : FnOK Tryz.prog 54 [x.dc, .one (i64 n)] (retCut (cutV x n)) := by
  have H := gAt_fn x n
  have hal : (x.al.map Ak.c).length = x.al.length := List.length_map ..
  have hrl : (x.rs.map Rp.c).length = x.rs.length := List.length_map ..
  unfold cutV
  by_cases h : (latV x n).2 = 0
  · rw [if_pos h]
    have h0 : lchk x = 0 := by
      unfold latV at h
      split at h
      · assumption
      · rename_i k; exact absurd h k
    obtain ⟨k1, k2, k3⟩ := lchk_ok h0
    have hn : ¬ (n < 0 ∨ (x.al.length : Int) < n) := fun k => by
      unfold latV at h
      rw [if_pos h0, if_pos k] at h
      cases h
    have hlr : x.rs.length = x.al.length := by rw [k3, runs_len]
    obtain ⟨g1, g2⟩ := mchk_ok k2
    obtain ⟨f1, f2, f3⟩ := fchk_ok g2
    have H1 := gmodeled_fn x.s (by omega)
    have hms : ∀ r ∈ x.rs, r.ms.length ≤ 1000000 := fun r hr => by
      rw [k3] at hr
      have := runs_ms k2 _ r hr
      omega
    have H2 : FnOK Tryz.prog 75 [.one (.list 7 (((x.al.map Ak.c).take n.toNat).drop (0 : Int).toNat))] (.c (.one (.list 7 ((x.al.take n.toNat).map Ak.c)))) := by
      have := ok_of_own (cloneAk_own ((x.al.map Ak.c).take n.toNat) (by rw [List.length_take]; omega))
      rw [List.map_take]
      exact this
    have H3 : FnOK Tryz.prog 91 [.one (.list 6 (((x.rs.map Rp.c).take n.toNat).drop (0 : Int).toNat))] (.c (.one (.list 6 ((x.rs.take n.toNat).map Rp.c)))) := by
      have := ok_of_own (gcopied_own (x.rs.take n.toNat) (by rw [List.length_take]; omega) fun r hr => hms r (List.mem_of_mem_take hr))
      rw [rps, List.map_take] at this
      rw [List.map_take]
      exact this
    have H4 : FnOK Tryz.prog 75 [.one (.list 7 (((x.al.map Ak.c).take ((x.al.length : Nat) : Int).toNat).drop n.toNat))] (.c (.one (.list 7 ((x.al.drop n.toNat).map Ak.c)))) := by
      rw [List.take_of_length_le (by rw [hal]; omega), ← List.map_drop]
      exact ok_of_own (cloneAk_own _ (by rw [List.length_map, List.length_drop]; omega))
    have H5 : FnOK Tryz.prog 91 [.one (.list 6 (((x.rs.map Rp.c).take ((x.rs.length : Nat) : Int).toNat).drop n.toNat))] (.c (.one (.list 6 ((x.rs.drop n.toNat).map Rp.c)))) := by
      rw [List.take_of_length_le (by rw [hrl]; omega), ← List.map_drop]
      exact ok_of_own (gcopied_own (x.rs.drop n.toNat) (by rw [List.length_drop]; omega) fun r hr => hms r (List.mem_of_mem_drop hr))
    generalize latV x n = z at *
    obtain ⟨z, e⟩ := z
    dsimp only at h H ⊢
    subst h
    clear k3 h0
    refine fn_ok (by kernel_rfl) ty_ok Tryz.func54 rfl (fun _ _ => Tryz.call54 _ _) rfl ?_
    intro hw
    clear hw
    repeat' ((conv => whnf); first | (with_reducible first | refine br_t ?_ | refine br_f ?_ | refine za ?_ | refine zg ?_) | rw [hal] | rw [hrl] | refine zp ?_ | refine zq ?_ | (with_reducible first | refine bc (fun h => ?_) (fun h => ?_) | refine zt ?_ | refine zf ?_ | refine br_i (fun h => ?_) (fun h => ?_)) | refine zg ?_ | refine zi ?_ | refine zb ?_)
    all_goals conv => whnf
    all_goals rfl
  · rw [if_neg h]
    generalize latV x n = z at *
    obtain ⟨z, e⟩ := z
    dsimp only at h H ⊢
    refine fn_ok (by kernel_rfl) ty_ok Tryz.func54 rfl (fun _ _ => Tryz.call54 _ _) rfl ?_
    intro hw
    clear hw
    exact zw
end Go.Proofs.YtepmgbmnghiaoaaGreat

namespace Go.Proofs.YtepmgbmnghiaoaaGreat
open Go Go.RowKit Go.Sort Sx
set_option maxRecDepth 100000 in
set_option maxHeartbeats 8000000 in
theorem gJoin_fn {x y : Lg} (h1 : lchk x = 0) (h2 : lchk y = 0) (h3 : (runs x.s x.al).1 = y.s) (h4 : x.al.length + y.al.length ≤ 120) : FnOK Tryz.prog 55 [x.dc, y.dc] (.tup [Lg.dc ⟨x.s, x.al ++ y.al, x.rs ++ y.rs⟩, .one (i64 0)]) := by
  have C1 := gCheck_fn x
  have C2 := gCheck_fn y
  rw [h1] at C1
  rw [h2] at C2
  obtain ⟨k1, k2, k3⟩ := lchk_ok h1
  obtain ⟨j1, j2, j3⟩ := lchk_ok h2
  have A := gAt_fn x ((x.al.length : Nat) : Int)
  have hA : latV x ((x.al.length : Nat) : Int) = (y.s, 0) := by
    unfold latV
    rw [if_pos h1, if_neg (by omega), Int.toNat_natCast, List.take_length, h3]
  rw [hA] at A
  have Q := eqPt_fn y.s.l y.s.l
  rw [decide_eq_true rfl] at Q
  obtain ⟨g1, g2⟩ := mchk_ok k2
  obtain ⟨f1, f2, f3⟩ := fchk_ok g2
  have M := gmodeled_fn x.s (by omega)
  have hlx : x.rs.length = x.al.length := by rw [k3, runs_len]
  have hly : y.rs.length = y.al.length := by rw [j3, runs_len]
  have P1 := gcopied_own x.rs (by omega) fun r hr => by
    rw [k3] at hr
    have := runs_ms k2 _ r hr
    omega
  have P2 := ok_of_own (gcopied_own y.rs (by omega) fun r hr => by
    rw [j3] at hr
    have := runs_ms j2 _ r hr
    omega)
  have HC := ok_of_own (catAk_own [x.al.map Ak.c, y.al.map Ak.c] (by simp; omega) (by simp))
  have hal : (x.al.map Ak.c).length = x.al.length := List.length_map ..
  have hbl : (y.al.map Ak.c).length = y.al.length := List.length_map ..
  have hxl : (x.rs.map Rp.c).length = x.rs.length := List.length_map ..
  have hyl : (y.rs.map Rp.c).length = y.rs.length := List.length_map ..
  simp only [lol, List.map_cons, List.map_nil, List.flatten_cons, List.flatten_nil, List.append_nil, ← List.map_append] at HC
  have hrr : x.rs.map Rp.c ++ y.rs.map Rp.c = (x.rs ++ y.rs).map Rp.c := (List.map_append ..).symm
  clear hA h1 h2 k3 j3 g1 g2 f1 f2 f3 k2 j2
  obtain ⟨⟨n, d, l⟩, a, r⟩ := x
  obtain ⟨⟨n', d', l'⟩, a', r'⟩ := y
  simp only [Lg.dc, Md.dc] at *
  have h4 : a.length + a'.length ≤ 120 := h4
  have hwr : IntKind.i64.wrap (((a.length : Nat) : Int) + ((a'.length : Nat) : Int)) = ((a.length + a'.length : Nat) : Int) := by rw [IntWalk.i64_in _ (by omega)]; omega
  refine fn_ok (by kernel_rfl) (ty_okK [76] [] [] []) Tryz.func55 rfl (fun _ _ => Tryz.call55 _ _) rfl ?_
  intro hw
  clear hw
  repeat' ((conv => whnf); first | (with_reducible first | refine br_t ?_ | refine br_f ?_ | refine za ?_ | refine zg ?_ | refine zo ?_) | refine zp ?_ | refine zq ?_ | (with_reducible first | refine bc (fun h => ?_) (fun h => ?_) | refine zt ?_ | refine zf ?_ | refine br_i (fun h => ?_) (fun h => ?_) | refine xi (pv_bool fun _ => nev23 _ _ _ _ _ _ _) ?_) | refine zg ?_ | refine zi ?_ | refine zb ?_ | refine zl ?_)
  all_goals conv => whnf
  refine loop_J (by kernel_rfl) (ty_okK [76] [] [] []) (σ := Nat) (fun i => [(15, sV (.int .i64 i))]) (fun _ => []) (fun i => i ≤ 2) (fun i => 2 - i) 0 (Nat.zero_le _) ?_ ?_
  · (conv => whnf); exact zent
  intro i hi
  have hl2 : ([[i64 n, i64 d, pts l, aks a, rps r], [i64 n', i64 d', pts l', aks a', rps r']] : List (List D)).length = 2 := rfl
  rcases (show i = 0 ∨ i = 1 ∨ i = 2 by omega) with rfl | rfl | rfl
  · have el : ([[i64 n, i64 d, pts l, aks a, rps r], [i64 n', i64 d', pts l', aks a', rps r']] : List (List D))[((0 : Nat) : Int).toNat]? = some [i64 n, i64 d, pts l, aks a, rps r] := rfl
    repeat' ((conv => whnf); first | (with_reducible first | refine br_t ?_ | refine br_f ?_ | refine za ?_ | refine zg ?_ | refine zo ?_) | rw [hl2] | refine zp ?_ | refine zq ?_ | (with_reducible first | refine bc (fun h => ?_) (fun h => ?_) | refine zt ?_ | refine zf ?_ | refine br_i (fun h => ?_) (fun h => ?_) | refine xi (pv_bool fun _ => nev23 _ _ _ _ _ _ _) ?_) | refine zg ?_ | refine zi ?_ | refine zb ?_ | refine zl ?_)
    all_goals conv => whnf
    refine ⟨1, by omega, ?_, by omega⟩
    (conv => whnf); exact zent
  · have el : ([[i64 n, i64 d, pts l, aks a, rps r], [i64 n', i64 d', pts l', aks a', rps r']] : List (List D))[((1 : Nat) : Int).toNat]? = some [i64 n', i64 d', pts l', aks a', rps r'] := rfl
    repeat' ((conv => whnf); first | (with_reducible first | refine br_t ?_ | refine br_f ?_ | refine za ?_ | refine zg ?_ | refine zo ?_) | rw [hl2] | refine zp ?_ | refine zq ?_ | (with_reducible first | refine bc (fun h => ?_) (fun h => ?_) | refine zt ?_ | refine zf ?_ | refine br_i (fun h => ?_) (fun h => ?_) | refine xi (pv_bool fun _ => nev23 _ _ _ _ _ _ _) ?_) | refine zg ?_ | refine zi ?_ | refine zb ?_ | refine zl ?_)
    all_goals conv => whnf
    refine ⟨2, by omega, ?_, by omega⟩
    (conv => whnf); exact zent
  · repeat' ((conv => whnf); first | (with_reducible first | refine br_t ?_ | refine br_f ?_ | refine za ?_ | refine zg ?_ | refine zo ?_) | rw [hl2] | rw [hal] | rw [hbl] | rw [hwr] | refine zp ?_ | refine zq ?_ | (with_reducible first | refine bc (fun h => ?_) (fun h => ?_) | refine zt ?_ | refine zf ?_ | refine br_i (fun h => ?_) (fun h => ?_) | refine xi (pv_bool fun _ => nev23 _ _ _ _ _ _ _) ?_) | refine zg ?_ | refine zi ?_ | refine zb ?_ | refine zl ?_)
    all_goals conv => whnf
    all_goals exact congrArg (fun z => DV.tup [.agg [i64 n, i64 d, pts l, aks (a ++ a'), .list 6 z], .one (i64 0)]) hrr
end Go.Proofs.YtepmgbmnghiaoaaGreat

namespace Go.Proofs.YtepmgbmnghiaoaaGreat
open Go Go.RowKit Go.Sort Sx
set_option maxRecDepth 100000 in
set_option maxHeartbeats 8000000 in
theorem gJoin_bad1 {x y : Lg} (h1 : lchk x ≠ 0) : FnOK Tryz.prog 55 [x.dc, y.dc] (retG (lg0, lchk x)) := by
  have C1 := gCheck_fn x
  generalize lchk x = e at *
  obtain ⟨⟨n, d, l⟩, a, r⟩ := x
  obtain ⟨⟨n', d', l'⟩, a', r'⟩ := y
  simp only [Lg.dc] at *
  refine fn_ok (by kernel_rfl) ty_ok Tryz.func55 rfl (fun _ _ => Tryz.call55 _ _) rfl ?_
  intro hw
  clear hw
  repeat' ((conv => whnf); first | (with_reducible first | refine br_t ?_ | refine br_f ?_ | refine za ?_ | refine zg ?_) | refine zp ?_ | refine zq ?_ | (with_reducible first | refine bc (fun h => ?_) (fun h => ?_) | refine zt ?_ | refine zf ?_ | refine br_i (fun h => ?_) (fun h => ?_) | refine xi (pv_bool fun _ => nev23 _ _ _ _ _ _ _) ?_) | refine zg ?_ | refine zi ?_ | refine zb ?_)
  all_goals conv => whnf
  refine loop_J (by kernel_rfl) ty_ok (σ := Nat) (fun i => [(15, sV (.int .i64 i))]) (fun _ => []) (fun i => i = 0) (fun i => 2 - i) 0 rfl ?_ ?_
  · (conv => whnf); exact zent
  rintro i rfl
  have hl2 : ([[i64 n, i64 d, pts l, aks a, rps r], [i64 n', i64 d', pts l', aks a', rps r']] : List (List D)).length = 2 := rfl
  have el : ([[i64 n, i64 d, pts l, aks a, rps r], [i64 n', i64 d', pts l', aks a', rps r']] : List (List D))[((0 : Nat) : Int).toNat]? = some [i64 n, i64 d, pts l, aks a, rps r] := rfl
  repeat' ((conv => whnf); first | (with_reducible first | refine br_t ?_ | refine br_f ?_ | refine za ?_ | refine zg ?_) | rw [hl2] | refine zp ?_ | refine zq ?_ | (with_reducible first | refine bc (fun h => ?_) (fun h => ?_) | refine zt ?_ | refine zf ?_ | refine br_i (fun h => ?_) (fun h => ?_) | refine xi (pv_bool fun _ => nev23 _ _ _ _ _ _ _) ?_) | refine zg ?_ | refine zi ?_ | refine zb ?_)
  all_goals conv => whnf
  all_goals rfl
set_option maxRecDepth 100000 in
set_option maxHeartbeats 8000000 in
theorem gJoin_bad2 {x y : Lg} (h1 : lchk x = 0) (h2 : lchk y ≠ 0) : FnOK Tryz.prog 55 [x.dc, y.dc] (retG (lg0, lchk y)) := by
  have C1 := gCheck_fn x
  have C2 := gCheck_fn y
  rw [h1] at C1
  clear h1
  generalize lchk y = e at *
  obtain ⟨⟨n, d, l⟩, a, r⟩ := x
  obtain ⟨⟨n', d', l'⟩, a', r'⟩ := y
  simp only [Lg.dc] at *
  refine fn_ok (by kernel_rfl) ty_ok Tryz.func55 rfl (fun _ _ => Tryz.call55 _ _) rfl ?_
  intro hw
  clear hw
  repeat' ((conv => whnf); first | (with_reducible first | refine br_t ?_ | refine br_f ?_ | refine za ?_ | refine zg ?_) | refine zp ?_ | refine zq ?_ | (with_reducible first | refine bc (fun h => ?_) (fun h => ?_) | refine zt ?_ | refine zf ?_ | refine br_i (fun h => ?_) (fun h => ?_) | refine xi (pv_bool fun _ => nev23 _ _ _ _ _ _ _) ?_) | refine zg ?_ | refine zi ?_ | refine zb ?_)
  all_goals conv => whnf
  refine loop_J (by kernel_rfl) ty_ok (σ := Nat) (fun i => [(15, sV (.int .i64 i))]) (fun _ => []) (fun i => i ≤ 1) (fun i => 2 - i) 0 (Nat.zero_le _) ?_ ?_
  · (conv => whnf); exact zent
  intro i hi
  have hl2 : ([[i64 n, i64 d, pts l, aks a, rps r], [i64 n', i64 d', pts l', aks a', rps r']] : List (List D)).length = 2 := rfl
  rcases (show i = 0 ∨ i = 1 by omega) with rfl | rfl
  · have el : ([[i64 n, i64 d, pts l, aks a, rps r], [i64 n', i64 d', pts l', aks a', rps r']] : List (List D))[((0 : Nat) : Int).toNat]? = some [i64 n, i64 d, pts l, aks a, rps r] := rfl
    repeat' ((conv => whnf); first | (with_reducible first | refine br_t ?_ | refine br_f ?_ | refine za ?_ | refine zg ?_) | rw [hl2] | refine zp ?_ | refine zq ?_ | (with_reducible first | refine bc (fun h => ?_) (fun h => ?_) | refine zt ?_ | refine zf ?_ | refine br_i (fun h => ?_) (fun h => ?_) | refine xi (pv_bool fun _ => nev23 _ _ _ _ _ _ _) ?_) | refine zg ?_ | refine zi ?_ | refine zb ?_)
    all_goals conv => whnf
    refine ⟨1, by omega, ?_, by omega⟩
    (conv => whnf); exact zent
  · have el : ([[i64 n, i64 d, pts l, aks a, rps r], [i64 n', i64 d', pts l', aks a', rps r']] : List (List D))[((1 : Nat) : Int).toNat]? = some [i64 n', i64 d', pts l', aks a', rps r'] := rfl
    repeat' ((conv => whnf); first | (with_reducible first | refine br_t ?_ | refine br_f ?_ | refine za ?_ | refine zg ?_) | rw [hl2] | refine zp ?_ | refine zq ?_ | (with_reducible first | refine bc (fun h => ?_) (fun h => ?_) | refine zt ?_ | refine zf ?_ | refine br_i (fun h => ?_) (fun h => ?_) | refine xi (pv_bool fun _ => nev23 _ _ _ _ _ _ _) ?_) | refine zg ?_ | refine zi ?_ | refine zb ?_)
    all_goals conv => whnf
    all_goals rfl
set_option maxRecDepth 100000 in
set_option maxHeartbeats 8000000 in
theorem gJoin_order {x y : Lg} {f : List Pt} (h1 : lchk x = 0) (h2 : lchk y = 0) (h3 : (runs x.s x.al).1 = ⟨y.s.n, y.s.d, f⟩) (h4 : f ≠ y.s.l) : FnOK Tryz.prog 55 [x.dc, y.dc] (retG (lg0, 32)) := by
  have C1 := gCheck_fn x
  have C2 := gCheck_fn y
  rw [h1] at C1
  rw [h2] at C2
  obtain ⟨k1, k2, k3⟩ := lchk_ok h1
  obtain ⟨j1, j2, j3⟩ := lchk_ok h2
  have A := gAt_fn x ((x.al.length : Nat) : Int)
  have hA : latV x ((x.al.length : Nat) : Int) = (⟨y.s.n, y.s.d, f⟩, 0) := by
    unfold latV
    rw [if_pos h1, if_neg (by omega), Int.toNat_natCast, List.take_length, h3]
  rw [hA] at A
  have Q := eqPt_fn f y.s.l
  rw [decide_eq_false h4] at Q
  have hal : (x.al.map Ak.c).length = x.al.length := List.length_map ..
  clear hA h1 h2 k3 j3 k2 j2 h3 h4
  obtain ⟨⟨n, d, l⟩, a, r⟩ := x
  obtain ⟨⟨n', d', l'⟩, a', r'⟩ := y
  simp only [Lg.dc, Md.dc] at *
  refine fn_ok (by kernel_rfl) ty_ok Tryz.func55 rfl (fun _ _ => Tryz.call55 _ _) rfl ?_
  intro hw
  clear hw
  repeat' ((conv => whnf); first | (with_reducible first | refine br_t ?_ | refine br_f ?_ | refine za ?_ | refine zg ?_) | refine zp ?_ | refine zq ?_ | (with_reducible first | refine bc (fun h => ?_) (fun h => ?_) | refine zt ?_ | refine zf ?_ | refine br_i (fun h => ?_) (fun h => ?_) | refine xi (pv_bool fun _ => nev23 _ _ _ _ _ _ _) ?_) | refine zg ?_ | refine zi ?_ | refine zb ?_)
  all_goals conv => whnf
  refine loop_J (by kernel_rfl) ty_ok (σ := Nat) (fun i => [(15, sV (.int .i64 i))]) (fun _ => []) (fun i => i ≤ 2) (fun i => 2 - i) 0 (Nat.zero_le _) ?_ ?_
  · (conv => whnf); exact zent
  intro i hi
  have hl2 : ([[i64 n, i64 d, pts l, aks a, rps r], [i64 n', i64 d', pts l', aks a', rps r']] : List (List D)).length = 2 := rfl
  rcases (show i = 0 ∨ i = 1 ∨ i = 2 by omega) with rfl | rfl | rfl
  · have el : ([[i64 n, i64 d, pts l, aks a, rps r], [i64 n', i64 d', pts l', aks a', rps r']] : List (List D))[((0 : Nat) : Int).toNat]? = some [i64 n, i64 d, pts l, aks a, rps r] := rfl
    repeat' ((conv => whnf); first | (with_reducible first | refine br_t ?_ | refine br_f ?_ | refine za ?_ | refine zg ?_) | rw [hl2] | refine zp ?_ | refine zq ?_ | (with_reducible first | refine bc (fun h => ?_) (fun h => ?_) | refine zt ?_ | refine zf ?_ | refine br_i (fun h => ?_) (fun h => ?_) | refine xi (pv_bool fun _ => nev23 _ _ _ _ _ _ _) ?_) | refine zg ?_ | refine zi ?_ | refine zb ?_)
    all_goals conv => whnf
    refine ⟨1, by omega, ?_, by omega⟩
    (conv => whnf); exact zent
  · have el : ([[i64 n, i64 d, pts l, aks a, rps r], [i64 n', i64 d', pts l', aks a', rps r']] : List (List D))[((1 : Nat) : Int).toNat]? = some [i64 n', i64 d', pts l', aks a', rps r'] := rfl
    repeat' ((conv => whnf); first | (with_reducible first | refine br_t ?_ | refine br_f ?_ | refine za ?_ | refine zg ?_) | rw [hl2] | refine zp ?_ | refine zq ?_ | (with_reducible first | refine bc (fun h => ?_) (fun h => ?_) | refine zt ?_ | refine zf ?_ | refine br_i (fun h => ?_) (fun h => ?_) | refine xi (pv_bool fun _ => nev23 _ _ _ _ _ _ _) ?_) | refine zg ?_ | refine zi ?_ | refine zb ?_)
    all_goals conv => whnf
    refine ⟨2, by omega, ?_, by omega⟩
    (conv => whnf); exact zent
  · repeat' ((conv => whnf); first | (with_reducible first | refine br_t ?_ | refine br_f ?_ | refine za ?_ | refine zg ?_) | rw [hl2] | rw [hal] | refine zp ?_ | refine zq ?_ | (with_reducible first | refine bc (fun h => ?_) (fun h => ?_) | refine zt ?_ | refine zf ?_ | refine br_i (fun h => ?_) (fun h => ?_) | refine xi (pv_bool fun _ => nev23 _ _ _ _ _ _ _) ?_) | refine zg ?_ | refine zi ?_ | refine zb ?_)
    all_goals conv => whnf
    all_goals rfl
set_option maxRecDepth 100000 in
set_option maxHeartbeats 8000000 in
theorem gJoin_many {x y : Lg} (h1 : lchk x = 0) (h2 : lchk y = 0) (h3 : (runs x.s x.al).1 = y.s) (h4 : 120 < x.al.length + y.al.length) : FnOK Tryz.prog 55 [x.dc, y.dc] (retG (lg0, 4)) := by
  have C1 := gCheck_fn x
  have C2 := gCheck_fn y
  rw [h1] at C1
  rw [h2] at C2
  obtain ⟨k1, k2, k3⟩ := lchk_ok h1
  obtain ⟨j1, j2, j3⟩ := lchk_ok h2
  have A := gAt_fn x ((x.al.length : Nat) : Int)
  have hA : latV x ((x.al.length : Nat) : Int) = (y.s, 0) := by
    unfold latV
    rw [if_pos h1, if_neg (by omega), Int.toNat_natCast, List.take_length, h3]
  rw [hA] at A
  have Q := eqPt_fn y.s.l y.s.l
  rw [decide_eq_true rfl] at Q
  have hal : (x.al.map Ak.c).length = x.al.length := List.length_map ..
  have hbl : (y.al.map Ak.c).length = y.al.length := List.length_map ..
  clear hA h1 h2 k3 j3 k2 j2 h3
  obtain ⟨⟨n, d, l⟩, a, r⟩ := x
  obtain ⟨⟨n', d', l'⟩, a', r'⟩ := y
  simp only [Lg.dc, Md.dc] at *
  have h4 : 120 < a.length + a'.length := h4
  have k1 : a.length ≤ 120 := k1
  have j1 : a'.length ≤ 120 := j1
  have hwr : IntKind.i64.wrap (((a.length : Nat) : Int) + ((a'.length : Nat) : Int)) = ((a.length + a'.length : Nat) : Int) := by rw [IntWalk.i64_in _ (by omega)]; omega
  refine fn_ok (by kernel_rfl) ty_ok Tryz.func55 rfl (fun _ _ => Tryz.call55 _ _) rfl ?_
  intro hw
  clear hw
  repeat' ((conv => whnf); first | (with_reducible first | refine br_t ?_ | refine br_f ?_ | refine za ?_ | refine zg ?_) | refine zp ?_ | refine zq ?_ | (with_reducible first | refine bc (fun h => ?_) (fun h => ?_) | refine zt ?_ | refine zf ?_ | refine br_i (fun h => ?_) (fun h => ?_) | refine xi (pv_bool fun _ => nev23 _ _ _ _ _ _ _) ?_) | refine zg ?_ | refine zi ?_ | refine zb ?_)
  all_goals conv => whnf
  refine loop_J (by kernel_rfl) ty_ok (σ := Nat) (fun i => [(15, sV (.int .i64 i))]) (fun _ => []) (fun i => i ≤ 2) (fun i => 2 - i) 0 (Nat.zero_le _) ?_ ?_
  · (conv => whnf); exact zent
  intro i hi
  have hl2 : ([[i64 n, i64 d, pts l, aks a, rps r], [i64 n', i64 d', pts l', aks a', rps r']] : List (List D)).length = 2 := rfl
  rcases (show i = 0 ∨ i = 1 ∨ i = 2 by omega) with rfl | rfl | rfl
  · have el : ([[i64 n, i64 d, pts l, aks a, rps r], [i64 n', i64 d', pts l', aks a', rps r']] : List (List D))[((0 : Nat) : Int).toNat]? = some [i64 n, i64 d, pts l, aks a, rps r] := rfl
    repeat' ((conv => whnf); first | (with_reducible first | refine br_t ?_ | refine br_f ?_ | refine za ?_ | refine zg ?_) | rw [hl2] | refine zp ?_ | refine zq ?_ | (with_reducible first | refine bc (fun h => ?_) (fun h => ?_) | refine zt ?_ | refine zf ?_ | refine br_i (fun h => ?_) (fun h => ?_) | refine xi (pv_bool fun _ => nev23 _ _ _ _ _ _ _) ?_) | refine zg ?_ | refine zi ?_ | refine zb ?_)
    all_goals conv => whnf
    refine ⟨1, by omega, ?_, by omega⟩
    (conv => whnf); exact zent
  · have el : ([[i64 n, i64 d, pts l, aks a, rps r], [i64 n', i64 d', pts l', aks a', rps r']] : List (List D))[((1 : Nat) : Int).toNat]? = some [i64 n', i64 d', pts l', aks a', rps r'] := rfl
    repeat' ((conv => whnf); first | (with_reducible first | refine br_t ?_ | refine br_f ?_ | refine za ?_ | refine zg ?_) | rw [hl2] | refine zp ?_ | refine zq ?_ | (with_reducible first | refine bc (fun h => ?_) (fun h => ?_) | refine zt ?_ | refine zf ?_ | refine br_i (fun h => ?_) (fun h => ?_) | refine xi (pv_bool fun _ => nev23 _ _ _ _ _ _ _) ?_) | refine zg ?_ | refine zi ?_ | refine zb ?_)
    all_goals conv => whnf
    refine ⟨2, by omega, ?_, by omega⟩
    (conv => whnf); exact zent
  · repeat' ((conv => whnf); first | (with_reducible first | refine br_t ?_ | refine br_f ?_ | refine za ?_ | refine zg ?_) | rw [hl2] | rw [hal] | rw [hbl] | rw [hwr] | refine zp ?_ | refine zq ?_ | (with_reducible first | refine bc (fun h => ?_) (fun h => ?_) | refine zt ?_ | refine zf ?_ | refine br_i (fun h => ?_) (fun h => ?_) | refine xi (pv_bool fun _ => nev23 _ _ _ _ _ _ _) ?_) | refine zg ?_ | refine zi ?_ | refine zb ?_)
    all_goals conv => whnf
    all_goals rfl
end Go.Proofs.YtepmgbmnghiaoaaGreat
