import Derived.Test.YtnjgfhgpicmklaaGLDFindsAO
import Derived.Test.YtnjgfhgpicmklaaGLDFindsAM
import Derived.Test.YtnjgfhgpicmklaaGLDFindsAN
import Derived.Test.YtnjgfhgpicmklaaRows
import Derived.Test.YtnjgfhgpicmklaaGLDFindsAA
set_option linter.all false
namespace Go.Proofs.Ytnjgfhgpicmklaa
open Go Go.RowKit Go.Sort Sx
theorem rdAll_fn (m n : Md) : FnOK Try.prog 9 [m.dc, n.dc] (retU (allV m n)) := by
  have H0 := rdBoth_fn m n
  unfold allV
  by_cases h : bothV m n = 0
  · rw [if_pos h]
    rw [h] at H0
    have HM := rdall_fn m n h
    generalize allU m n = U at *
    refine fn_ok (by kernel_rfl) ty_ok Try.func9 rfl (fun _ _ => Try.call9 _ _) rfl ?_
    intro hw
    clear hw
    exact zw
  · rw [if_neg h]
    rw [(both_08 m n).resolve_left h] at H0
    refine fn_ok (by kernel_rfl) ty_ok Try.func9 rfl (fun _ _ => Try.call9 _ _) rfl ?_
    intro hw
    clear hw
    exact zw
theorem rdFirst_fn (m n : Md) : FnOK Try.prog 11 [m.dc, n.dc] (.tup [(firstV m n).1.dc, .one (i64 (firstV m n).2)]) := by
  have H0 := rdBoth_fn m n
  unfold firstV
  by_cases h : bothV m n = 0
  · rw [if_pos h]
    rw [h] at H0
    have HM := rdall_fn m n h
    cases hU : allU m n with
    | nil =>
      rw [hU] at HM
      simp only [uks, List.map_nil] at HM
      dsimp only
      refine fn_ok (by kernel_rfl) ty_ok Try.func11 rfl (fun _ _ => Try.call11 _ _) rfl ?_
      intro hw
      clear hw
      exact zw
    | cons u r =>
      rw [hU] at HM
      dsimp only
      have g : ((u :: r).map Uk.c)[(0 : Int).toNat]? = some [u8 u.k, i64 u.id] := rfl
      have hl : ((u :: r).map Uk.c).length = r.length + 1 := by simp
      refine fn_ok (by kernel_rfl) ty_ok Try.func11 rfl (fun _ _ => Try.call11 _ _) rfl ?_
      intro hw
      clear hw
      repeat' ((conv => whnf); first | (with_reducible first | refine br_t ?_ | refine br_f ?_ | refine za ?_ | refine zg ?_) | rw [hl] | refine zp ?_ | refine zq ?_ | (with_reducible first | refine bc (fun h => ?_) (fun h => ?_) | refine zt ?_ | refine zf ?_ | refine br_i (fun h => ?_) (fun h => ?_)) | refine zg ?_ | refine zi ?_ | refine zb ?_)
      all_goals conv => whnf
      all_goals rfl
  · rw [if_neg h]
    rw [(both_08 m n).resolve_left h] at H0
    refine fn_ok (by kernel_rfl) ty_ok Try.func11 rfl (fun _ _ => Try.call11 _ _) rfl ?_
    intro hw
    clear hw
    exact zw
theorem rdSame_fn (m n : Md) : FnOK Try.prog 13 [m.dc, n.dc] (.tup [.one (bol (sameV m n).1), .one (i64 (sameV m n).2)]) := by
  have H0 := rdBoth_fn m n
  have HE := roSameModel_fn m n
  unfold sameV
  by_cases h : bothV m n = 0
  · rw [if_pos h]
    rw [h] at H0
    generalize decide (m = n) = q at *
    refine fn_ok (by kernel_rfl) ty_ok Try.func13 rfl (fun _ _ => Try.call13 _ _) rfl ?_
    intro hw
    clear hw
    exact zw
  · rw [if_neg h]
    rw [(both_08 m n).resolve_left h] at H0
    refine fn_ok (by kernel_rfl) ty_ok Try.func13 rfl (fun _ _ => Try.call13 _ _) rfl ?_
    intro hw
    clear hw
    exact zw
set_option maxRecDepth 100000 in
set_option maxHeartbeats 8000000 in
theorem rdAsks_fn (m n : Md) : FnOK Try.prog 15 [m.dc, n.dc] (retKs (asksV m n)) := by
  have H0 := rdBoth_fn m n
  unfold asksV
  by_cases h : bothV m n = 0
  · rw [if_pos h]
    rw [h] at H0
    obtain ⟨b1, b2⟩ := both_len h
    obtain ⟨hm, hn⟩ := both_ok h
    obtain ⟨s1, s2, _, _⟩ := both_in h
    have q1 := (askd_ok (mchk_ok hm).1).1
    have q2 := (askd_ok (mchk_ok hn).1).1
    have HC := rcompare_fn n.n n.d m.n m.d
    have hcc := cmpN_cases (n.n * m.d) (m.n * n.d)
    by_cases hlt : n.n * m.d < m.n * n.d
    · rw [if_pos hlt]
      have hc : cmpN (n.n * m.d) (m.n * n.d) = -1 := by omega
      rw [hc] at HC
      clear hcc hlt
      refine fn_ok (by kernel_rfl) ty_ok Try.func15 rfl (fun _ _ => Try.call15 _ _) rfl ?_
      intro hw
      clear hw
      exact zw
    · rw [if_neg hlt]
      have HM := rdall_fn m n h
      have hlen : (allU m n).length ≤ 1000 := by
        unfold allU nowU
        have := mrg_len m.l n.l
        rw [List.length_append, List.length_map]
        split <;> simp <;> omega
      have hpp : ∀ u ∈ allU m n, u.k = 3 ∨ u.k = 4 → ∃ p ∈ n.l, p.id = u.id := fun u hu hk => uk_pt hu hk
      have P2 := rdpart_own (allU m n) 2 n s2 hlen (by omega) hpp
      have P4 := ok_of_own (rdpart_own (allU m n) 4 n s2 hlen (by omega) hpp)
      have P3 := ok_of_own (rdpart_own (allU m n) 3 n s2 hlen (by omega) hpp)
      have P1 := ok_of_own (rdpart_own (allU m n) 1 n s2 hlen (by omega) hpp)
      have hall := prt_all (m := m) (n := n) s2
      have hplen := parts_len m n
      have l2 := prt_len (allU m n) 2 n (allU m n).length
      have l4 := prt_len (allU m n) 4 n (allU m n).length
      have l3 := prt_len (allU m n) 3 n (allU m n).length
      have l1 := prt_len (allU m n) 1 n (allU m n).length
      rw [List.take_length] at l1 l2 l3 l4
      generalize asksL m n = A at *
      generalize prt (allU m n) 2 n = x2 at *
      generalize prt (allU m n) 4 n = x4 at *
      generalize prt (allU m n) 3 n = x3 at *
      generalize prt (allU m n) 1 n = x1 at *
      generalize allU m n = U at *
      generalize cmpN (n.n * m.d) (m.n * n.d) = cc at *
      have hul : (U.map Uk.c).length = U.length := List.length_map ..
      have k2 : (x2.map Ak.c).length = x2.length := List.length_map ..
      have k4 : (x4.map Ak.c).length = x4.length := List.length_map ..
      have k3 : (x3.map Ak.c).length = x3.length := List.length_map ..
      have k1 : (x1.map Ak.c).length = x1.length := List.length_map ..
      have hs : x2.map Ak.c ++ x4.map Ak.c ++ x3.map Ak.c ++ x1.map Ak.c = A.map Ak.c := by rw [← hall]; simp
      have hb1 : (x2.map Ak.c ++ x4.map Ak.c).length ≤ 1000000 := by rw [List.length_append]; omega
      have hb2 : (x2.map Ak.c ++ x4.map Ak.c ++ x3.map Ak.c).length ≤ 1000000 := by rw [List.length_append, List.length_append]; omega
      have hb3 : (x2.map Ak.c ++ x4.map Ak.c ++ x3.map Ak.c ++ x1.map Ak.c).length ≤ 1000000 := by rw [List.length_append, List.length_append, List.length_append]; omega
      have main : ∀ (Z : List Ak × Int), (if 120 < A.length then ([], 4) else (A, 0)) = Z → FnOK Try.prog 15 [m.dc, n.dc] (retKs Z) := fun Z hZ => by
        by_cases c1 : 120 < A.length
        · rw [if_pos c1] at hZ
          subst hZ
          refine fn_ok (by kernel_rfl) (ty_okK [29, 33, 38] [] [] []) Try.func15 rfl (fun _ _ => Try.call15 _ _) rfl ?_
          intro hw
          clear hw
          repeat' ((conv => whnf); first | (with_reducible first | refine br_t ?_ | refine br_f ?_ | refine za ?_ | refine zg ?_ | refine zo ?_) | rw [hul] | refine zp ?_ | refine zq ?_ | (with_reducible first | refine bc (fun h => ?_) (fun h => ?_) | refine zt ?_ | refine zf ?_ | refine br_i (fun h => ?_) (fun h => ?_)) | refine zg ?_ | refine zi ?_ | refine zb ?_ | refine zl ?_)
          all_goals conv => whnf
          all_goals rfl
        · rw [if_neg c1] at hZ
          subst hZ
          refine fn_ok (by kernel_rfl) (ty_okK [29, 33, 38] [] [] []) Try.func15 rfl (fun _ _ => Try.call15 _ _) rfl ?_
          intro hw
          clear hw
          repeat' ((conv => whnf); first | (with_reducible first | refine br_t ?_ | refine br_f ?_ | refine za ?_ | refine zg ?_ | refine zo ?_) | rw [hul] | exact hb1 | exact hb2 | exact hb3 | refine zp ?_ | refine zq ?_ | (with_reducible first | refine bc (fun h => ?_) (fun h => ?_) | refine zt ?_ | refine zf ?_ | refine br_i (fun h => ?_) (fun h => ?_)) | refine zg ?_ | refine zi ?_ | refine zb ?_ | refine zl ?_)
          all_goals conv => whnf
          all_goals exact congrArg (fun x => DV.tup [.one (.list 7 x), .one (i64 0)]) hs
      exact main _ rfl
  · rw [if_neg h]
    rw [(both_08 m n).resolve_left h] at H0
    refine fn_ok (by kernel_rfl) ty_ok Try.func15 rfl (fun _ _ => Try.call15 _ _) rfl ?_
    intro hw
    clear hw
    exact zw
end Go.Proofs.Ytnjgfhgpicmklaa

namespace Go.Proofs.Ytnjgfhgpicmklaa
open Go Go.RowKit Go.Sort Sx
end Go.Proofs.Ytnjgfhgpicmklaa

namespace Go.Proofs.Ytnjgfhgpicmklaa
open Go Go.RowKit Go.Sort Sx
end Go.Proofs.Ytnjgfhgpicmklaa

namespace Go.Proofs.Ytnjgfhgpicmklaa
open Go Go.RowKit Go.Sort Sx
theorem Ak.eq_iff {a b : Ak} : a = b ↔ a.k = b.k ∧ (a.p.id = b.p.id ∧ a.p.a = b.p.a ∧ a.p.b = b.p.b) ∧ a.id = b.id ∧ a.n = b.n ∧ a.d = b.d := by
  obtain ⟨k, ⟨i, x, y⟩, j, n, d⟩ := a
  obtain ⟨k', ⟨i', x', y'⟩, j', n', d'⟩ := b
  simp [and_assoc]
theorem r36SameAsks_fn (a b : List Ak) : FnOK Try.prog 17 [.one (aks a), .one (aks b)] (.c (.one (bol (decide (a = b))))) := by
  have hla : (a.map Ak.c).length = a.length := List.length_map ..
  have hlb : (b.map Ak.c).length = b.length := List.length_map ..
  refine fn_ok (by kernel_rfl) ty_ok Try.func17 rfl (fun _ _ => Try.call17 _ _) rfl ?_
  intro hw
  simp only [WDCs, WDC, WDs] at hw
  have w1 := wd_aks hw.1
  have w2 := wd_aks hw.2.1
  clear hw
  by_cases h0 : a.length = b.length
  · repeat' ((conv => whnf); first | (with_reducible first | refine br_t ?_ | refine br_f ?_ | refine za ?_ | refine zg ?_) | rw [hla] | rw [hlb] | refine zp ?_ | refine zq ?_ | (with_reducible first | refine bc (fun h => ?_) (fun h => ?_) | refine zt ?_ | refine zf ?_ | refine br_i (fun h => ?_) (fun h => ?_) | refine xi (pv_bool fun _ => nev60 _ _ _ _ _ _ _ _ _ _ _ _ _ _ _ _ _) ?_) | refine zg ?_ | refine zi ?_ | refine zb ?_)
    refine loop_J (by kernel_rfl) ty_ok (σ := Nat) (fun i => [(5, sV (.int .i64 i))]) (fun _ => []) (fun i => i ≤ a.length ∧ a.take i = b.take i) (fun i => a.length - i) 0 ⟨by omega, rfl⟩ ?_ ?_
    · (conv => whnf); exact zent
    rintro i ⟨hi, hI⟩
    rcases Nat.lt_or_ge i a.length with hlt | hge
    · have hb : i < b.length := by omega
      have he1 := aks_get hlt
      have he2 := aks_get hb
      have hq := Ak.eq_iff (a := a[i]) (b := b[i])
      by_cases hc : a[i] = b[i]
      · have hn := take_succ_eq hI hlt hb hc
        have hq := hq.1 hc
        clear hc
        repeat' ((conv => whnf); first | (with_reducible first | refine br_t ?_ | refine br_f ?_ | refine za ?_ | refine zg ?_) | rw [hla] | rw [hlb] | refine zp ?_ | refine zq ?_ | (with_reducible first | refine bc (fun h => ?_) (fun h => ?_) | refine zt ?_ | refine zf ?_ | refine br_i (fun h => ?_) (fun h => ?_) | refine xi (pv_bool fun _ => nev60 _ _ _ _ _ _ _ _ _ _ _ _ _ _ _ _ _) ?_) | refine zg ?_ | refine zi ?_ | refine zb ?_)
        all_goals conv => whnf
        refine ⟨i + 1, ⟨by omega, hn⟩, ?_, by omega⟩
        (conv => whnf); exact zent
      · rw [decide_eq_false (ne_of_get hlt hb hc)]
        have hq : ¬ _ := fun h => hc (hq.2 h)
        clear hc
        repeat' ((conv => whnf); first | (with_reducible first | refine br_t ?_ | refine br_f ?_ | refine za ?_ | refine zg ?_) | rw [hla] | rw [hlb] | refine zp ?_ | refine zq ?_ | (with_reducible first | refine bc (fun h => ?_) (fun h => ?_) | refine zt ?_ | refine zf ?_ | refine br_i (fun h => ?_) (fun h => ?_) | refine xi (pv_bool fun _ => nev60 _ _ _ _ _ _ _ _ _ _ _ _ _ _ _ _ _) ?_) | refine zg ?_ | refine zi ?_ | refine zb ?_)
        all_goals conv => whnf
        all_goals rfl
    · rw [decide_eq_true (take_all_eq hI h0 hge)]
      repeat' ((conv => whnf); first | (with_reducible first | refine br_t ?_ | refine br_f ?_ | refine za ?_ | refine zg ?_) | rw [hla] | rw [hlb] | refine zp ?_ | refine zq ?_ | (with_reducible first | refine bc (fun h => ?_) (fun h => ?_) | refine zt ?_ | refine zf ?_ | refine br_i (fun h => ?_) (fun h => ?_) | refine xi (pv_bool fun _ => nev60 _ _ _ _ _ _ _ _ _ _ _ _ _ _ _ _ _) ?_) | refine zg ?_ | refine zi ?_ | refine zb ?_)
      all_goals conv => whnf
      all_goals rfl
  · rw [decide_eq_false (fun h => h0 (congrArg List.length h))]
    repeat' ((conv => whnf); first | (with_reducible first | refine br_t ?_ | refine br_f ?_ | refine za ?_ | refine zg ?_) | rw [hla] | rw [hlb] | refine zp ?_ | refine zq ?_ | (with_reducible first | refine bc (fun h => ?_) (fun h => ?_) | refine zt ?_ | refine zf ?_ | refine br_i (fun h => ?_) (fun h => ?_) | refine xi (pv_bool fun _ => nev60 _ _ _ _ _ _ _ _ _ _ _ _ _ _ _ _ _) ?_) | refine zg ?_ | refine zi ?_ | refine zb ?_)
    all_goals conv => whnf
    all_goals rfl
end Go.Proofs.Ytnjgfhgpicmklaa

namespace Go.Proofs.Ytnjgfhgpicmklaa
open Go Go.RowKit Go.Sort Sx
theorem wd_uks {l : List Uk} (h : WD (uks l)) : l.length ≤ 9223372036854775807 := by
  obtain ⟨h1, _, h3⟩ := WD_list.1 h
  simpa using h1
theorem Uk.eq_iff {a b : Uk} : a = b ↔ a.k = b.k ∧ a.id = b.id := by
  cases a; cases b; simp
theorem rdSameAll_fn (a b : List Uk) : FnOK Try.prog 16 [.one (uks a), .one (uks b)] (.c (.one (bol (decide (a = b))))) := by
  have hla : (a.map Uk.c).length = a.length := List.length_map ..
  have hlb : (b.map Uk.c).length = b.length := List.length_map ..
  refine fn_ok (by kernel_rfl) ty_ok Try.func16 rfl (fun _ _ => Try.call16 _ _) rfl ?_
  intro hw
  simp only [WDCs, WDC, WDs] at hw
  have w1 := wd_uks hw.1
  have w2 := wd_uks hw.2.1
  clear hw
  by_cases h0 : a.length = b.length
  · repeat' ((conv => whnf); first | (with_reducible first | refine br_t ?_ | refine br_f ?_ | refine za ?_ | refine zg ?_) | rw [hla] | rw [hlb] | refine zp ?_ | refine zq ?_ | (with_reducible first | refine bc (fun h => ?_) (fun h => ?_) | refine zt ?_ | refine zf ?_ | refine br_i (fun h => ?_) (fun h => ?_) | refine xi (pv_bool fun _ => nev38 _ _ _ _ _ _ _) ?_) | refine zg ?_ | refine zi ?_ | refine zb ?_)
    refine loop_J (by kernel_rfl) ty_ok (σ := Nat) (fun i => [(5, sV (.int .i64 i))]) (fun _ => []) (fun i => i ≤ a.length ∧ a.take i = b.take i) (fun i => a.length - i) 0 ⟨by omega, rfl⟩ ?_ ?_
    · (conv => whnf); exact zent
    rintro i ⟨hi, hI⟩
    rcases Nat.lt_or_ge i a.length with hlt | hge
    · have hb : i < b.length := by omega
      have he1 := uks_get hlt
      have he2 := uks_get hb
      have hq := Uk.eq_iff (a := a[i]) (b := b[i])
      by_cases hc : a[i] = b[i]
      · have hn := take_succ_eq hI hlt hb hc
        have hq := hq.1 hc
        clear hc
        repeat' ((conv => whnf); first | (with_reducible first | refine br_t ?_ | refine br_f ?_ | refine za ?_ | refine zg ?_) | rw [hla] | rw [hlb] | refine zp ?_ | refine zq ?_ | (with_reducible first | refine bc (fun h => ?_) (fun h => ?_) | refine zt ?_ | refine zf ?_ | refine br_i (fun h => ?_) (fun h => ?_) | refine xi (pv_bool fun _ => nev38 _ _ _ _ _ _ _) ?_) | refine zg ?_ | refine zi ?_ | refine zb ?_)
        all_goals conv => whnf
        refine ⟨i + 1, ⟨by omega, hn⟩, ?_, by omega⟩
        (conv => whnf); exact zent
      · rw [decide_eq_false (ne_of_get hlt hb hc)]
        have hq : ¬ _ := fun h => hc (hq.2 h)
        clear hc
        repeat' ((conv => whnf); first | (with_reducible first | refine br_t ?_ | refine br_f ?_ | refine za ?_ | refine zg ?_) | rw [hla] | rw [hlb] | refine zp ?_ | refine zq ?_ | (with_reducible first | refine bc (fun h => ?_) (fun h => ?_) | refine zt ?_ | refine zf ?_ | refine br_i (fun h => ?_) (fun h => ?_) | refine xi (pv_bool fun _ => nev38 _ _ _ _ _ _ _) ?_) | refine zg ?_ | refine zi ?_ | refine zb ?_)
        all_goals conv => whnf
        all_goals rfl
    · rw [decide_eq_true (take_all_eq hI h0 hge)]
      repeat' ((conv => whnf); first | (with_reducible first | refine br_t ?_ | refine br_f ?_ | refine za ?_ | refine zg ?_) | rw [hla] | rw [hlb] | refine zp ?_ | refine zq ?_ | (with_reducible first | refine bc (fun h => ?_) (fun h => ?_) | refine zt ?_ | refine zf ?_ | refine br_i (fun h => ?_) (fun h => ?_) | refine xi (pv_bool fun _ => nev38 _ _ _ _ _ _ _) ?_) | refine zg ?_ | refine zi ?_ | refine zb ?_)
      all_goals conv => whnf
      all_goals rfl
  · rw [decide_eq_false (fun h => h0 (congrArg List.length h))]
    repeat' ((conv => whnf); first | (with_reducible first | refine br_t ?_ | refine br_f ?_ | refine za ?_ | refine zg ?_) | rw [hla] | rw [hlb] | refine zp ?_ | refine zq ?_ | (with_reducible first | refine bc (fun h => ?_) (fun h => ?_) | refine zt ?_ | refine zf ?_ | refine br_i (fun h => ?_) (fun h => ?_) | refine xi (pv_bool fun _ => nev38 _ _ _ _ _ _ _) ?_) | refine zg ?_ | refine zi ?_ | refine zb ?_)
    all_goals conv => whnf
    all_goals rfl
end Go.Proofs.Ytnjgfhgpicmklaa

namespace Go.Proofs.Ytnjgfhgpicmklaa
open Go.RowKit Go.Sort Sx
set_option maxRecDepth 100000 in
set_option maxHeartbeats 8000000 in
theorem LDFinds_fn (m n : Md) : FnOK Try.prog 3 [m.dc, n.dc] (.c (.one (bol true))) := by
  have G := DLgreat_fn m n
  cases g : (great m.l || great n.l)
  · rw [g] at G
    rw [Bool.or_eq_false_iff] at g
    obtain ⟨ga, gb⟩ := g
    have h1 : m.l.length ≤ 1000000 := by unfold great at ga; simp at ga; omega
    have h2 : n.l.length ≤ 1000000 := by unfold great at gb; simp at gb; omega
    have T1 := roTwin_fn m h1
    have T2 := roTwin_fn n h2
    have A1 := dAll_fn m n
    have A2 := rdAll_fn m n
    have B1 := dFirst_fn m n
    have B2 := rdFirst_fn m n
    have C1 := dSame_fn m n
    have C2 := rdSame_fn m n
    have D1 := dAsks_fn m n
    have D2 := rdAsks_fn m n
    have S1 := rdSameAll_fn (allV m n).1 (allV m n).1
    have S2 := r36SameAsks_fn (asksV m n).1 (asksV m n).1
    have S3 := roSameModel_fn m m
    have S4 := roSameModel_fn n n
    simp only [decide_true] at S1 S2 S3 S4
    generalize allV m n = x1 at *
    generalize firstV m n = x2 at *
    generalize sameV m n = x3 at *
    generalize asksV m n = x4 at *
    obtain ⟨x1, y1⟩ := x1
    obtain ⟨⟨x2, z2⟩, y2⟩ := x2
    obtain ⟨x3, y3⟩ := x3
    obtain ⟨x4, y4⟩ := x4
    simp only [retU, retKs] at *
    clear ga gb
    refine fn_ok (by kernel_rfl) ty_ok Try.func3 rfl (fun _ _ => Try.call3 _ _) rfl ?_
    intro hw
    clear hw
    repeat' ((conv => whnf); first | (with_reducible first | refine br_t ?_ | refine br_f ?_ | refine za ?_ | refine zg ?_) | refine zp ?_ | refine zq ?_ | (with_reducible first | refine bc (fun h => ?_) (fun h => ?_) | refine zt ?_ | refine zf ?_ | refine br_i (fun h => ?_) (fun h => ?_) | refine xi (pv_bool fun _ => eqv38 _ _ _ _ _ _ _) ?_) | refine zg ?_ | refine zi ?_ | refine zb ?_)
    all_goals conv => whnf
    all_goals first | rfl | exact absurd h (by simp) | exact r_bool (by simp)
  · rw [g] at G
    refine fn_ok (by kernel_rfl) ty_ok Try.func3 rfl (fun _ _ => Try.call3 _ _) rfl ?_
    intro hw
    clear hw
    repeat' ((conv => whnf); first | (with_reducible first | refine br_t ?_ | refine br_f ?_ | refine za ?_ | refine zg ?_) | refine zp ?_ | refine zq ?_ | (with_reducible first | refine bc (fun h => ?_) (fun h => ?_) | refine zt ?_ | refine zf ?_ | refine br_i (fun h => ?_) (fun h => ?_) | refine xi (pv_bool fun _ => eqv38 _ _ _ _ _ _ _) ?_) | refine zg ?_ | refine zi ?_ | refine zb ?_)
    all_goals conv => whnf
    all_goals rfl
end Go.Proofs.Ytnjgfhgpicmklaa

namespace Go.Proofs.Ytnjgfhgpicmklaa
open Go.RowKit Go.ChangeShapes Go.WideShapes Go.ChangeAt Sx
theorem differFinds_own : ownKnob Try.prog.godebug = none := by kernel_rfl
set_option maxRecDepth 100000 in
theorem differFinds_lifted (os : Os) (started : os.Started) (H : Type) (enc : TypeId × Value → H) :
    ReturnsInHanded {} Try.checked os 3 .any (Rows.differFindsSpec.pre6 enc Try.prog Try.f3 Rows.differFindsRow.domain false) (Rows.differFindsSpec.post enc Try.prog Try.f3 false true false false) := by
  refine returnsInHanded_of_change (C := Try.checked) differFinds_own started (by kernel_rfl) Try.func3
    (ChangeSpec.witness6 (enc := enc) (C := Try.checked) false ⟨#[], #[.agg #[.int .i64 0, .int .i64 0, .slice none 0 0], .agg #[.int .i64 0, .int .i64 0, .slice none 0 0]], []⟩ 12 (by kernel_rfl) (by kernel_rfl) (by kernel_rfl) (by kernel_rfl)) ?_
  intro W base args ds gs before hval0 hW hcnd _
  have hval : ∀ (j : Nat) t v, Try.f3.params[j]? = some t → args[j]? = some v → Value.okWide Try.prog W .any base t v := hval0
  have hW' := hW
  obtain ⟨p, q, hA0, hV, rfl, hfz, hnd⟩ := hW
  have hA : DataW.TrodAll enc Try.prog W 0 (fun _ => true) true Try.f3.params.toList args.toList ds p := hA0
  rw [Try.params3] at hA hval
  obtain ⟨v0, vs0, d0, ds0, p0, q0, hargs, rfl, rfl, h0, r0⟩ := trodAll_cons hA
  obtain ⟨v1, vs1, d1, ds1, p1, q1, rfl, rfl, rfl, h1, r1⟩ := trodAll_cons r0
  obtain ⟨rfl, rfl, rfl⟩ := trodAll_nil r1
  obtain rfl : args = #[v0, v1] := by cases args; simp_all
  obtain ⟨e0, hd0, hf0⟩ := arg_data (tyB_ok (s := shModel) (by kernel_rfl)) (hval 0 28 v0 rfl rfl) h0
  obtain ⟨x0, rfl⟩ := fit_model hf0
  obtain ⟨e1, hd1, hf1⟩ := arg_data (tyB_ok (s := shModel) (by kernel_rfl)) (hval 1 28 v1 rfl rfl) h1
  obtain ⟨x1, rfl⟩ := fit_model hf1
  refine (law_of_fn (vs := [v0, v1]) (fun _ _ => Try.call3 _ _) (LDFinds_fn x0 x1) ⟨hd0, hd1, trivial⟩).mono fun e W' ⟨he, hb⟩ => ?_
  subst he
  exact ⟨_, rfl, law_post (by kernel_rfl) (by kernel_rfl) rfl Try.underlying4 rfl hW' ⟨rfl, rfl, rfl⟩ hb⟩
theorem differFinds_and {a b : Bool} (h : a = true) (k : b = true) : (a && b) = true := by rw [h, k]; rfl
theorem differFinds_c0 : (Rows.differFindsRow.inPlace == Try.prog.inPlace 3) = true := by kernel_rfl
theorem differFinds_c1 : (Rows.differFindsRow.unfollowed == Try.prog.unfollowed 3) = true := by kernel_rfl
theorem differFinds_c2 : (Rows.differFindsRow.recurses == Try.prog.recurses 3) = true := by kernel_rfl
theorem differFinds_c3 : (Rows.differFindsRow.named == Try.prog.varsNamed 3) = true := by kernel_rfl
theorem differFinds_c4 : (Rows.differFindsRow.loops == (Try.f3.params.toList ++ Rows.differFindsSpec.plain.varTypes Try.prog).any (Try.prog.loopsFrom ·)) = true := by kernel_rfl
theorem differFinds_c5 : laidOutB Try.prog = true := by kernel_rfl
theorem differFinds_c6 : mapsRowed Try.prog = true := by kernel_rfl
theorem differFinds_c7 : Try.prog.stopsHeard = true := by kernel_rfl
theorem differFinds_c8 : Try.prog.mayEnter = true := by kernel_rfl
theorem differFinds_facts : joinedFacts Try.prog 3 Try.f3 Rows.differFindsSpec Rows.differFindsRow = true := by
  unfold joinedFacts
  repeat' (with_reducible refine differFinds_and ?_ ?_)
  all_goals first | with_reducible exact differFinds_c0 | with_reducible exact differFinds_c1 | with_reducible exact differFinds_c2 | with_reducible exact differFinds_c3 | with_reducible exact differFinds_c4 | with_reducible exact differFinds_c5 | with_reducible exact differFinds_c6 | with_reducible exact differFinds_c7 | with_reducible exact differFinds_c8 | kernel_rfl
theorem differFinds_over : Rows.differFindsRow.holds Try.pinned (OpenSpec.ofChange Rows.differFindsSpec) :=
  OpenClaim.holds_of_wide 3 Try.f3 rfl rfl rfl rfl rfl rfl rfl ⟨rfl, rfl, rfl, rfl, rfl⟩ rfl rfl rfl rfl rfl (by kernel_rfl) Try.func3 differFinds_facts
    (of_decide_eq_true (by kernel_rfl)) (by unfold Func.isWrapper; rw [if_neg (of_decide_eq_false (by kernel_rfl))]; exact ⟨rfl, rfl⟩)
    (fun os started H enc _ => differFinds_lifted os started H enc)
theorem differFinds_proved : Rows.DifferFindsSaid := differFinds_over
#print axioms differFinds_proved
end Go.Proofs.Ytnjgfhgpicmklaa
