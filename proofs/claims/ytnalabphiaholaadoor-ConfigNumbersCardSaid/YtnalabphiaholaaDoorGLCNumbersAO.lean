import Derived.Test.YtnalabphiaholaaDoorGLCNumbersAM
import Derived.Test.YtnalabphiaholaaDoorGLCNumbersAN
import Derived.Test.YtnalabphiaholaaDoorGLCNumbersAL
set_option linter.all false
namespace Go.Proofs.YtnalabphiaholaaDoor
open Go Go.RowKit Go.Sort Sx
open Go.Lib hiding intOf
theorem rcorder_fn (a : Ak) (h : akchk a = 0) : FnOK Tryd.prog 55 [a.dc] (.c (.one (str (ordT a)))) := by
  rcases ord_cases h with ⟨k, hk, ⟨i, x, y⟩, hp, rfl⟩ | ⟨i, h1, h2, rfl⟩ | ⟨n, d, hd, rfl⟩ | ⟨k, hk, rfl⟩
  · obtain ⟨g1, g2, g3⟩ := pt_fit hp
    have g1 : fitI i := g1
    have g2 : fitI x := g2
    have g3 : fitI y := g3
    have Hp := rcpoint_fn g1 g2 g3
    have l1 := itoa_le (fit_in g1)
    have l2 := itoa_le (fit_in g2)
    have l3 := itoa_le (fit_in g3)
    have hl : (itoa i ++ 32 :: (itoa x ++ 32 :: itoa y)).length ≤ 100 := by simp only [List.length_append, List.length_cons]; omega
    have eS : itoa i ++ 32 :: (itoa x ++ 32 :: itoa y) = pointS ⟨i, x, y⟩ := rfl
    rw [eS] at Hp hl
    clear eS
    obtain ⟨S, hS⟩ : ∃ S, S = pointS ⟨i, x, y⟩ := ⟨_, rfl⟩
    rw [← hS] at Hp hl
    rcases hk with rfl | rfl
    · have e : ordT ⟨1, ⟨i, x, y⟩, 0, 0, 0⟩ = [112, 117, 116, 32] ++ S := by rw [hS]; rfl
      rw [e]
      simp only [Ak.dc]
      refine fn_ok (by kernel_rfl) ty_ok Tryd.func55 rfl (fun _ _ => Tryd.call55 _ _) rfl ?_
      intro hw
      clear hw
      repeat' ((conv => whnf); first | (with_reducible first | refine br_t ?_ | refine br_f ?_ | refine za ?_ | refine zg ?_) | refine zsl ?_ | refine zsg ?_ | refine zss ?_ | refine zs1 ?_ | refine zse ?_ | refine zsn ?_ | refine zsc ?_ | (with_reducible first | refine zpa ?_ | refine zqa ?_) | refine zp ?_ | refine zq ?_ | (with_reducible first | refine bc (fun h => ?_) (fun h => ?_) | refine zt ?_ | refine zf ?_ | refine br_i (fun h => ?_) (fun h => ?_)) | refine zg ?_ | refine zi ?_ | refine zb ?_)
      all_goals conv => whnf
      all_goals rfl
    · have e : ordT ⟨3, ⟨i, x, y⟩, 0, 0, 0⟩ = [99, 104, 97, 110, 103, 101, 32] ++ S := by rw [hS]; rfl
      rw [e]
      simp only [Ak.dc]
      refine fn_ok (by kernel_rfl) ty_ok Tryd.func55 rfl (fun _ _ => Tryd.call55 _ _) rfl ?_
      intro hw
      clear hw
      repeat' ((conv => whnf); first | (with_reducible first | refine br_t ?_ | refine br_f ?_ | refine za ?_ | refine zg ?_) | refine zsl ?_ | refine zsg ?_ | refine zss ?_ | refine zs1 ?_ | refine zse ?_ | refine zsn ?_ | refine zsc ?_ | (with_reducible first | refine zpa ?_ | refine zqa ?_) | refine zp ?_ | refine zq ?_ | (with_reducible first | refine bc (fun h => ?_) (fun h => ?_) | refine zt ?_ | refine zf ?_ | refine br_i (fun h => ?_) (fun h => ?_)) | refine zg ?_ | refine zi ?_ | refine zb ?_)
      all_goals conv => whnf
      all_goals rfl
  · have l1 := itoa_le (n := i) ⟨by omega, by omega⟩
    have H := rcDecimal_fn i ⟨by omega, by omega⟩
    have ew : IntKind.i64.wrap i = i := IntWalk.i64_in _ (by omega)
    have H0 : FnOK Tryd.prog 75 [.one (i64 (IntKind.i64.wrap i))] (.c (.one (str (itoa i)))) := by rw [ew]; exact H
    have e : ordT ⟨2, ⟨0, 0, 0⟩, i, 0, 0⟩ = [116, 97, 107, 101, 32] ++ itoa i := rfl
    rw [e]
    simp only [Ak.dc]
    refine fn_ok (by kernel_rfl) ty_ok Tryd.func55 rfl (fun _ _ => Tryd.call55 _ _) rfl ?_
    intro hw
    clear hw
    repeat' ((conv => whnf); first | (with_reducible first | refine br_t ?_ | refine br_f ?_ | refine za ?_ | refine zg ?_) | refine zsl ?_ | refine zsg ?_ | refine zss ?_ | refine zs1 ?_ | refine zse ?_ | refine zsn ?_ | refine zsc ?_ | (with_reducible first | refine zpa ?_ | refine zqa ?_) | refine zp ?_ | refine zq ?_ | (with_reducible first | refine bc (fun h => ?_) (fun h => ?_) | refine zt ?_ | refine zf ?_ | refine br_i (fun h => ?_) (fun h => ?_)) | refine zg ?_ | refine zi ?_ | refine zb ?_)
    all_goals conv => whnf
    all_goals rfl
  · obtain ⟨c1, c2, c3⟩ := askd_fit hd
    have l1 := wrtV_le (fit_in c2) (fit_in c3)
    have Hn := rcwritten_fn c2 c3
    have e : ordT ⟨4, ⟨0, 0, 0⟩, 0, n, d⟩ = [109, 111, 118, 101, 32] ++ wrtV n d := rfl
    rw [e]
    simp only [Ak.dc]
    refine fn_ok (by kernel_rfl) ty_ok Tryd.func55 rfl (fun _ _ => Tryd.call55 _ _) rfl ?_
    intro hw
    clear hw
    repeat' ((conv => whnf); first | (with_reducible first | refine br_t ?_ | refine br_f ?_ | refine za ?_ | refine zg ?_) | refine zsl ?_ | refine zsg ?_ | refine zss ?_ | refine zs1 ?_ | refine zse ?_ | refine zsn ?_ | refine zsc ?_ | (with_reducible first | refine zpa ?_ | refine zqa ?_) | refine zp ?_ | refine zq ?_ | (with_reducible first | refine bc (fun h => ?_) (fun h => ?_) | refine zt ?_ | refine zf ?_ | refine br_i (fun h => ?_) (fun h => ?_)) | refine zg ?_ | refine zi ?_ | refine zb ?_)
    all_goals conv => whnf
    all_goals rfl
  · rcases hk with rfl | rfl
    · have e : ordT ⟨5, ⟨0, 0, 0⟩, 0, 0, 0⟩ = wLead := rfl
      rw [e]
      simp only [Ak.dc]
      refine fn_ok (by kernel_rfl) ty_ok Tryd.func55 rfl (fun _ _ => Tryd.call55 _ _) rfl ?_
      intro hw
      clear hw
      repeat' ((conv => whnf); first | (with_reducible first | refine br_t ?_ | refine br_f ?_ | refine za ?_ | refine zg ?_) | refine zsl ?_ | refine zsg ?_ | refine zss ?_ | refine zs1 ?_ | refine zse ?_ | refine zsn ?_ | refine zsc ?_ | (with_reducible first | refine zpa ?_ | refine zqa ?_) | refine zp ?_ | refine zq ?_ | (with_reducible first | refine bc (fun h => ?_) (fun h => ?_) | refine zt ?_ | refine zf ?_ | refine br_i (fun h => ?_) (fun h => ?_)) | refine zg ?_ | refine zi ?_ | refine zb ?_)
      all_goals conv => whnf
      all_goals rfl
    · have e : ordT ⟨6, ⟨0, 0, 0⟩, 0, 0, 0⟩ = wClose := rfl
      rw [e]
      simp only [Ak.dc]
      refine fn_ok (by kernel_rfl) ty_ok Tryd.func55 rfl (fun _ _ => Tryd.call55 _ _) rfl ?_
      intro hw
      clear hw
      repeat' ((conv => whnf); first | (with_reducible first | refine br_t ?_ | refine br_f ?_ | refine za ?_ | refine zg ?_) | refine zsl ?_ | refine zsg ?_ | refine zss ?_ | refine zs1 ?_ | refine zse ?_ | refine zsn ?_ | refine zsc ?_ | (with_reducible first | refine zpa ?_ | refine zqa ?_) | refine zp ?_ | refine zq ?_ | (with_reducible first | refine bc (fun h => ?_) (fun h => ?_) | refine zt ?_ | refine zf ?_ | refine br_i (fun h => ?_) (fun h => ?_)) | refine zg ?_ | refine zi ?_ | refine zb ?_)
      all_goals conv => whnf
      all_goals rfl
theorem akchk_08 (a : Ak) : akchk a = 0 ∨ akchk a = 8 := by
  unfold akchk
  split
  · exact .inl rfl
  · exact .inr rfl
theorem rcOrder_fn (a : Ak) : FnOK Tryd.prog 21 [a.dc] (retS (ordSV a)) := by
  have Hc := r36Check_fn a
  unfold ordSV
  rcases akchk_08 a with h | h
  · have Ho := rcorder_fn a h
    rw [if_pos h]
    rw [h] at Hc
    refine fn_ok (by kernel_rfl) ty_ok Tryd.func21 rfl (fun _ _ => Tryd.call21 _ _) rfl ?_
    intro hw
    clear hw
    repeat' ((conv => whnf); first | (with_reducible first | refine br_t ?_ | refine br_f ?_ | refine za ?_ | refine zg ?_) | refine zsl ?_ | refine zsg ?_ | refine zss ?_ | refine zs1 ?_ | refine zse ?_ | refine zsn ?_ | refine zsc ?_ | (with_reducible first | refine zpa ?_ | refine zqa ?_) | refine zp ?_ | refine zq ?_ | (with_reducible first | refine bc (fun h => ?_) (fun h => ?_) | refine zt ?_ | refine zf ?_ | refine br_i (fun h => ?_) (fun h => ?_)) | refine zg ?_ | refine zi ?_ | refine zb ?_)
    all_goals conv => whnf
    all_goals rfl
  · rw [if_neg (by omega)]
    rw [h] at Hc
    refine fn_ok (by kernel_rfl) ty_ok Tryd.func21 rfl (fun _ _ => Tryd.call21 _ _) rfl ?_
    intro hw
    clear hw
    repeat' ((conv => whnf); first | (with_reducible first | refine br_t ?_ | refine br_f ?_ | refine za ?_ | refine zg ?_) | refine zsl ?_ | refine zsg ?_ | refine zss ?_ | refine zs1 ?_ | refine zse ?_ | refine zsn ?_ | refine zsc ?_ | (with_reducible first | refine zpa ?_ | refine zqa ?_) | refine zp ?_ | refine zq ?_ | (with_reducible first | refine bc (fun h => ?_) (fun h => ?_) | refine zt ?_ | refine zf ?_ | refine br_i (fun h => ?_) (fun h => ?_)) | refine zg ?_ | refine zi ?_ | refine zb ?_)
    all_goals conv => whnf
    all_goals rfl
theorem bo_cases (a : Ak) (s : Str) : (akchk a = 0 ∧ ordT a = s ∧ backA s a = (a, 0)) ∨ (akchk a = 0 ∧ ordT a ≠ s ∧ backA s a = (ak0, 12)) ∨ (akchk a = 8 ∧ backA s a = (ak0, 12)) := by
  unfold backA
  rcases akchk_08 a with h | h
  · by_cases e : ordT a = s
    · exact .inl ⟨h, e, if_pos ⟨h, e⟩⟩
    · exact .inr (.inl ⟨h, e, if_neg fun k => e k.2⟩)
  · exact .inr (.inr ⟨h, if_neg fun k => by omega⟩)
theorem rdPtR_3 (w : List Str) : rdPtR w = (rd3R w).map fun p => ⟨p.1, p.2.1, p.2.2⟩ := by
  unfold rdPtR rd3R
  rw [rdPt_3]
  cases rd3 wholeR w with
  | none => rfl
  | some p =>
    show (if _ then some _ else none) = Option.map _ (if _ then some _ else none)
    by_cases h : 0 ≤ p.1 ∧ p.1 ≤ 65535
    · rw [if_pos h, if_pos h]; rfl
    · rw [if_neg h, if_neg h]; rfl
set_option maxHeartbeats 4000000 in
theorem rcReadOrder_fn (s : Str) (hs : s.length ≤ 1000) : FnOK Tryd.prog 23 [.one (str s)] (retAk (rordR s)) := by
  have Hs : FnOK Tryd.prog 32 [.one (str s), .one (.v (.int .u8 32))] (.c (.one (strs (spl 32 s)))) := rcCut_fn s 32 (by omega)
  have hl1 := spl_len 32 s
  have hl2 := spl_each 32 s
  obtain ⟨w0, t, hL⟩ : ∃ w0 t, spl 32 s = w0 :: t := by
    cases h : spl 32 s with
    | nil => exact absurd h (spl_ne 32 s)
    | cons a b => exact ⟨a, b, rfl⟩
  unfold rordR
  rw [hL] at Hs hl1 hl2 ⊢
  simp only [List.headD_cons, List.tail_cons]
  obtain ⟨z, hz⟩ : ∃ z, z = (w0 :: t).getLastD [] := ⟨_, rfl⟩
  obtain ⟨kk, hkk⟩ : ∃ kk, kk = kindW w0 := ⟨_, rfl⟩
  have hk := kindW_rng w0
  have f1 := @kindW_word w0 1 (by omega)
  have f2 := @kindW_word w0 2 (by omega)
  have f3 := @kindW_word w0 3 (by omega)
  have f4 := @kindW_word w0 4 (by omega)
  have f5 := @kindW_word w0 5 (by omega)
  have f6 := @kindW_word w0 6 (by omega)
  rw [← hkk] at hk f1 f2 f3 f4 f5 f6 ⊢
  rw [← hz]
  have hzm : z ∈ w0 :: t := by rw [hz, List.getLastD_cons]; exact List.getLastD_mem_cons ..
  have g0 : ((w0 :: t).map fun s => [str s])[(0 : Int).toNat]? = some [str w0] := rfl
  have gl : ((w0 :: t).map fun s => [str s]).length = t.length + 1 := by simp
  have hlt : t.length ≤ 1000 := by simp only [List.length_cons] at hl1; omega
  have ew : IntKind.i64.wrap ((((w0 :: t).map fun s => [str s]).length : Nat) - 1 : Int) = (t.length : Int) := by rw [IntWalk.i64_in _ (by omega)]; omega
  have gz : ((w0 :: t).map fun s => [str s])[(IntKind.i64.wrap ((((w0 :: t).map fun s => [str s]).length : Nat) - 1 : Int)).toNat]? = some [str z] := by
    rw [ew, Int.toNat_natCast, List.getElem?_map, hz, List.getLastD_eq_getLast?, List.getLast?_eq_getElem?, List.length_cons, Nat.add_sub_cancel, List.getElem?_eq_getElem (by simp)]; rfl
  have hT : List.drop (Int.toNat 1) (List.take ((((w0 :: t).map fun s => [str s]).length : Nat) : Int).toNat ((w0 :: t).map fun s => [str s])) = t.map fun s => [str s] := by
    rw [Int.toNat_natCast, List.take_length]; rfl
  have Hr := rcpoints_fn t (by omega) fun x hx => Nat.le_trans (hl2 x (List.mem_cons_of_mem _ hx)) (by omega)
  rw [show strs t = .list 1 (List.drop (Int.toNat 1) (List.take ((((w0 :: t).map fun s => [str s]).length : Nat) : Int).toNat ((w0 :: t).map fun s => [str s]))) by rw [hT]] at Hr
  have hzl := hl2 z hzm
  have Ho := rcWhole_fn z (by omega)
  have Hn := rcReadNumber_fn z (by omega)
  clear hT hkk hs hl1 hl2 hz hzm hzl
  unfold rrK
  rw [rdPtR_3]
  refine fn_ok (by kernel_rfl) ty_ok Tryd.func23 rfl (fun _ _ => Tryd.call23 _ _) rfl ?_
  intro hw
  clear hw
  rcases (show kk = 0 ∨ kk = 1 ∨ kk = 2 ∨ kk = 3 ∨ kk = 4 ∨ kk = 5 ∨ kk = 6 by omega) with rfl | rfl | rfl | rfl | rfl | rfl | rfl
  · have n1 : ¬ w0 = [112, 117, 116] := fun h => absurd (f1.1 h.symm) (by decide)
    have n2 : ¬ w0 = [116, 97, 107, 101] := fun h => absurd (f2.1 h.symm) (by decide)
    have n3 : ¬ w0 = [99, 104, 97, 110, 103, 101] := fun h => absurd (f3.1 h.symm) (by decide)
    have n4 : ¬ w0 = [109, 111, 118, 101] := fun h => absurd (f4.1 h.symm) (by decide)
    have n5 : ¬ w0 = [108, 101, 97, 100] := fun h => absurd (f5.1 h.symm) (by decide)
    have n6 : ¬ w0 = [99, 108, 111, 115, 101] := fun h => absurd (f6.1 h.symm) (by decide)
    clear f1 f2 f3 f4 f5 f6
    rw [if_neg (by decide), if_neg (by decide), if_neg (by decide)]
    have Hc := r36Check_fn ⟨0, ⟨0, 0, 0⟩, 0, 0, 0⟩
    have Hor := rcorder_fn ⟨0, ⟨0, 0, 0⟩, 0, 0, 0⟩
    rcases bo_cases ⟨0, ⟨0, 0, 0⟩, 0, 0, 0⟩ s with ⟨e, h, b⟩ | ⟨e, h, b⟩ | ⟨e, b⟩
    all_goals rw [e] at Hc
    all_goals rw [b]
    all_goals try replace Hor := Hor e
    all_goals simp only [Ak.dc] at Hc Hor ⊢
    all_goals clear e b
    repeat' ((conv => whnf); first | (with_reducible first | refine br_t ?_ | refine br_f ?_ | refine za ?_ | refine zg ?_) | refine zsl ?_ | refine zsg ?_ | refine zss ?_ | refine zs1 ?_ | refine zse ?_ | refine zsn ?_ | refine zsc ?_ | (with_reducible first | refine zpa ?_ | refine zqa ?_) | refine zp ?_ | refine zq ?_ | (with_reducible first | refine bc (fun h => ?_) (fun h => ?_) | refine zt ?_ | refine zf ?_ | refine br_i (fun h => ?_) (fun h => ?_)) | refine zg ?_ | refine zi ?_ | refine zb ?_)
    all_goals conv => whnf
    all_goals first | rfl | contradiction
  · have ew0 : [112, 117, 116] = w0 := f1.2 rfl
    subst ew0
    clear f1 f2 f3 f4 f5 f6
    rw [if_pos (by decide)]
    cases hp : rd3R t with
    | none =>
      rw [hp] at Hr
      simp only [Option.map_none, retPo] at Hr ⊢
      repeat' ((conv => whnf); first | (with_reducible first | refine br_t ?_ | refine br_f ?_ | refine za ?_ | refine zg ?_) | refine zsl ?_ | refine zsg ?_ | refine zss ?_ | refine zs1 ?_ | refine zse ?_ | refine zsn ?_ | refine zsc ?_ | (with_reducible first | refine zpa ?_ | refine zqa ?_) | refine zp ?_ | refine zq ?_ | (with_reducible first | refine bc (fun h => ?_) (fun h => ?_) | refine zt ?_ | refine zf ?_ | refine br_i (fun h => ?_) (fun h => ?_)) | refine zg ?_ | refine zi ?_ | refine zb ?_)
      all_goals conv => whnf
      all_goals first | rfl | contradiction
    | some p =>
      obtain ⟨p1, p2, p3⟩ := p
      rw [hp] at Hr
      simp only [Option.map_some, retPo] at Hr ⊢
      have Hc := r36Check_fn ⟨1, ⟨p1, p2, p3⟩, 0, 0, 0⟩
      have Hor := rcorder_fn ⟨1, ⟨p1, p2, p3⟩, 0, 0, 0⟩
      rcases bo_cases ⟨1, ⟨p1, p2, p3⟩, 0, 0, 0⟩ s with ⟨e, h, b⟩ | ⟨e, h, b⟩ | ⟨e, b⟩
      all_goals rw [e] at Hc
      all_goals rw [b]
      all_goals try replace Hor := Hor e
      all_goals simp only [Ak.dc] at Hc Hor ⊢
      all_goals clear e b
      repeat' ((conv => whnf); first | (with_reducible first | refine br_t ?_ | refine br_f ?_ | refine za ?_ | refine zg ?_) | refine zsl ?_ | refine zsg ?_ | refine zss ?_ | refine zs1 ?_ | refine zse ?_ | refine zsn ?_ | refine zsc ?_ | (with_reducible first | refine zpa ?_ | refine zqa ?_) | refine zp ?_ | refine zq ?_ | (with_reducible first | refine bc (fun h => ?_) (fun h => ?_) | refine zt ?_ | refine zf ?_ | refine br_i (fun h => ?_) (fun h => ?_)) | refine zg ?_ | refine zi ?_ | refine zb ?_)
      all_goals conv => whnf
      all_goals first | rfl | contradiction
  · have ew0 : [116, 97, 107, 101] = w0 := f2.2 rfl
    subst ew0
    clear f1 f2 f3 f4 f5 f6
    rw [if_neg (by decide), if_pos rfl]
    generalize wholeR z = q at *
    obtain ⟨qn, qb⟩ := q
    simp only [retWr] at Ho ⊢
    by_cases hq : qb = true ∧ 0 ≤ qn ∧ qn ≤ 65535
    · rw [if_pos hq]
      obtain ⟨rfl, hq1, hq2⟩ := hq
      have Hc := r36Check_fn ⟨2, ⟨0, 0, 0⟩, qn, 0, 0⟩
      have Hor := rcorder_fn ⟨2, ⟨0, 0, 0⟩, qn, 0, 0⟩
      rcases bo_cases ⟨2, ⟨0, 0, 0⟩, qn, 0, 0⟩ s with ⟨e, h, b⟩ | ⟨e, h, b⟩ | ⟨e, b⟩
      all_goals rw [e] at Hc
      all_goals rw [b]
      all_goals try replace Hor := Hor e
      all_goals simp only [Ak.dc] at Hc Hor ⊢
      all_goals clear e b
      repeat' ((conv => whnf); first | (with_reducible first | refine br_t ?_ | refine br_f ?_ | refine za ?_ | refine zg ?_) | refine zsl ?_ | refine zsg ?_ | refine zss ?_ | refine zs1 ?_ | refine zse ?_ | refine zsn ?_ | refine zsc ?_ | (with_reducible first | refine zpa ?_ | refine zqa ?_) | refine zp ?_ | refine zq ?_ | (with_reducible first | refine bc (fun h => ?_) (fun h => ?_) | refine zt ?_ | refine zf ?_ | refine br_i (fun h => ?_) (fun h => ?_)) | refine zg ?_ | refine zi ?_ | refine zb ?_)
      all_goals conv => whnf
      all_goals first | rfl | contradiction
    · rw [if_neg hq]
      cases qb
      all_goals simp only [Bool.false_eq_true, true_and, false_and, not_false_eq_true] at hq
      repeat' ((conv => whnf); first | (with_reducible first | refine br_t ?_ | refine br_f ?_ | refine za ?_ | refine zg ?_) | refine zsl ?_ | refine zsg ?_ | refine zss ?_ | refine zs1 ?_ | refine zse ?_ | refine zsn ?_ | refine zsc ?_ | (with_reducible first | refine zpa ?_ | refine zqa ?_) | refine zp ?_ | refine zq ?_ | (with_reducible first | refine bc (fun h => ?_) (fun h => ?_) | refine zt ?_ | refine zf ?_ | refine br_i (fun h => ?_) (fun h => ?_)) | refine zg ?_ | refine zi ?_ | refine zb ?_)
      all_goals conv => whnf
      all_goals first | rfl | contradiction | (exfalso; omega)
  · have ew0 : [99, 104, 97, 110, 103, 101] = w0 := f3.2 rfl
    subst ew0
    clear f1 f2 f3 f4 f5 f6
    rw [if_pos (by decide)]
    cases hp : rd3R t with
    | none =>
      rw [hp] at Hr
      simp only [Option.map_none, retPo] at Hr ⊢
      repeat' ((conv => whnf); first | (with_reducible first | refine br_t ?_ | refine br_f ?_ | refine za ?_ | refine zg ?_) | refine zsl ?_ | refine zsg ?_ | refine zss ?_ | refine zs1 ?_ | refine zse ?_ | refine zsn ?_ | refine zsc ?_ | (with_reducible first | refine zpa ?_ | refine zqa ?_) | refine zp ?_ | refine zq ?_ | (with_reducible first | refine bc (fun h => ?_) (fun h => ?_) | refine zt ?_ | refine zf ?_ | refine br_i (fun h => ?_) (fun h => ?_)) | refine zg ?_ | refine zi ?_ | refine zb ?_)
      all_goals conv => whnf
      all_goals first | rfl | contradiction
    | some p =>
      obtain ⟨p1, p2, p3⟩ := p
      rw [hp] at Hr
      simp only [Option.map_some, retPo] at Hr ⊢
      have Hc := r36Check_fn ⟨3, ⟨p1, p2, p3⟩, 0, 0, 0⟩
      have Hor := rcorder_fn ⟨3, ⟨p1, p2, p3⟩, 0, 0, 0⟩
      rcases bo_cases ⟨3, ⟨p1, p2, p3⟩, 0, 0, 0⟩ s with ⟨e, h, b⟩ | ⟨e, h, b⟩ | ⟨e, b⟩
      all_goals rw [e] at Hc
      all_goals rw [b]
      all_goals try replace Hor := Hor e
      all_goals simp only [Ak.dc] at Hc Hor ⊢
      all_goals clear e b
      repeat' ((conv => whnf); first | (with_reducible first | refine br_t ?_ | refine br_f ?_ | refine za ?_ | refine zg ?_) | refine zsl ?_ | refine zsg ?_ | refine zss ?_ | refine zs1 ?_ | refine zse ?_ | refine zsn ?_ | refine zsc ?_ | (with_reducible first | refine zpa ?_ | refine zqa ?_) | refine zp ?_ | refine zq ?_ | (with_reducible first | refine bc (fun h => ?_) (fun h => ?_) | refine zt ?_ | refine zf ?_ | refine br_i (fun h => ?_) (fun h => ?_)) | refine zg ?_ | refine zi ?_ | refine zb ?_)
      all_goals conv => whnf
      all_goals first | rfl | contradiction
  · have ew0 : [109, 111, 118, 101] = w0 := f4.2 rfl
    subst ew0
    clear f1 f2 f3 f4 f5 f6
    rw [if_neg (by decide), if_neg (by decide), if_pos rfl]
    generalize readR z = q at *
    obtain ⟨⟨qn, qd⟩, qe⟩ := q
    simp only [retR3] at Hn ⊢
    by_cases h0 : qe = 0
    · subst h0
      rw [if_pos rfl]
      have Hc := r36Check_fn ⟨4, ⟨0, 0, 0⟩, 0, qn, qd⟩
      have Hor := rcorder_fn ⟨4, ⟨0, 0, 0⟩, 0, qn, qd⟩
      rcases bo_cases ⟨4, ⟨0, 0, 0⟩, 0, qn, qd⟩ s with ⟨e, h, b⟩ | ⟨e, h, b⟩ | ⟨e, b⟩
      all_goals rw [e] at Hc
      all_goals rw [b]
      all_goals try replace Hor := Hor e
      all_goals simp only [Ak.dc] at Hc Hor ⊢
      all_goals clear e b
      repeat' ((conv => whnf); first | (with_reducible first | refine br_t ?_ | refine br_f ?_ | refine za ?_ | refine zg ?_) | refine zsl ?_ | refine zsg ?_ | refine zss ?_ | refine zs1 ?_ | refine zse ?_ | refine zsn ?_ | refine zsc ?_ | (with_reducible first | refine zpa ?_ | refine zqa ?_) | refine zp ?_ | refine zq ?_ | (with_reducible first | refine bc (fun h => ?_) (fun h => ?_) | refine zt ?_ | refine zf ?_ | refine br_i (fun h => ?_) (fun h => ?_)) | refine zg ?_ | refine zi ?_ | refine zb ?_)
      all_goals conv => whnf
      all_goals first | rfl | contradiction
    · rw [if_neg h0]
      repeat' ((conv => whnf); first | (with_reducible first | refine br_t ?_ | refine br_f ?_ | refine za ?_ | refine zg ?_) | refine zsl ?_ | refine zsg ?_ | refine zss ?_ | refine zs1 ?_ | refine zse ?_ | refine zsn ?_ | refine zsc ?_ | (with_reducible first | refine zpa ?_ | refine zqa ?_) | refine zp ?_ | refine zq ?_ | (with_reducible first | refine bc (fun h => ?_) (fun h => ?_) | refine zt ?_ | refine zf ?_ | refine br_i (fun h => ?_) (fun h => ?_)) | refine zg ?_ | refine zi ?_ | refine zb ?_)
      all_goals conv => whnf
      all_goals first | rfl | contradiction
  · have ew0 : [108, 101, 97, 100] = w0 := f5.2 rfl
    subst ew0
    clear f1 f2 f3 f4 f5 f6
    rw [if_neg (by decide), if_neg (by decide), if_neg (by decide)]
    have Hc := r36Check_fn ⟨5, ⟨0, 0, 0⟩, 0, 0, 0⟩
    have Hor := rcorder_fn ⟨5, ⟨0, 0, 0⟩, 0, 0, 0⟩
    rcases bo_cases ⟨5, ⟨0, 0, 0⟩, 0, 0, 0⟩ s with ⟨e, h, b⟩ | ⟨e, h, b⟩ | ⟨e, b⟩
    all_goals rw [e] at Hc
    all_goals rw [b]
    all_goals try replace Hor := Hor e
    all_goals simp only [Ak.dc] at Hc Hor ⊢
    all_goals clear e b
    repeat' ((conv => whnf); first | (with_reducible first | refine br_t ?_ | refine br_f ?_ | refine za ?_ | refine zg ?_) | refine zsl ?_ | refine zsg ?_ | refine zss ?_ | refine zs1 ?_ | refine zse ?_ | refine zsn ?_ | refine zsc ?_ | (with_reducible first | refine zpa ?_ | refine zqa ?_) | refine zp ?_ | refine zq ?_ | (with_reducible first | refine bc (fun h => ?_) (fun h => ?_) | refine zt ?_ | refine zf ?_ | refine br_i (fun h => ?_) (fun h => ?_)) | refine zg ?_ | refine zi ?_ | refine zb ?_)
    all_goals conv => whnf
    all_goals first | rfl | contradiction
  · have ew0 : [99, 108, 111, 115, 101] = w0 := f6.2 rfl
    subst ew0
    clear f1 f2 f3 f4 f5 f6
    rw [if_neg (by decide), if_neg (by decide), if_neg (by decide)]
    have Hc := r36Check_fn ⟨6, ⟨0, 0, 0⟩, 0, 0, 0⟩
    have Hor := rcorder_fn ⟨6, ⟨0, 0, 0⟩, 0, 0, 0⟩
    rcases bo_cases ⟨6, ⟨0, 0, 0⟩, 0, 0, 0⟩ s with ⟨e, h, b⟩ | ⟨e, h, b⟩ | ⟨e, b⟩
    all_goals rw [e] at Hc
    all_goals rw [b]
    all_goals try replace Hor := Hor e
    all_goals simp only [Ak.dc] at Hc Hor ⊢
    all_goals clear e b
    repeat' ((conv => whnf); first | (with_reducible first | refine br_t ?_ | refine br_f ?_ | refine za ?_ | refine zg ?_) | refine zsl ?_ | refine zsg ?_ | refine zss ?_ | refine zs1 ?_ | refine zse ?_ | refine zsn ?_ | refine zsc ?_ | (with_reducible first | refine zpa ?_ | refine zqa ?_) | refine zp ?_ | refine zq ?_ | (with_reducible first | refine bc (fun h => ?_) (fun h => ?_) | refine zt ?_ | refine zf ?_ | refine br_i (fun h => ?_) (fun h => ?_)) | refine zg ?_ | refine zi ?_ | refine zb ?_)
    all_goals conv => whnf
    all_goals first | rfl | contradiction
end Go.Proofs.YtnalabphiaholaaDoor

namespace Go.Proofs.YtnalabphiaholaaDoor
open Go Go.RowKit Go.Sort Sx
open Go.Lib hiding intOf
set_option maxRecDepth 100000 in
set_option maxHeartbeats 4000000 in
theorem LCNumbers_fn (n d : Int) (a : Ak) (s : Str) (hs0 : s.length ≤ 9223372036854775807) (t : Str) (ht0 : t.length ≤ 9223372036854775807) : FnOK Tryd.prog 4 [.agg [i64 n, i64 d], a.dc, .one (str s), .one (str t)] (.c (.one (bol true))) := by
  by_cases h : s.length ≤ 100 ∧ t.length ≤ 100
  · obtain ⟨h1, h2⟩ := h
    have H1 := cNumber_fn n d
    have H2 := rcNumber_fn n d
    have H3 := cReadNumber_fn s (by omega)
    have H4 := rcReadNumber_fn s (by omega)
    have H5 := cOrder_fn a
    have H6 := rcOrder_fn a
    have H7 := cReadOrder_fn t (by omega)
    have H8 := rcReadOrder_fn t (by omega)
    rw [← read_eq] at H4
    rw [← rord_eq] at H8
    generalize numV n d = x at *
    generalize readV s = y at *
    generalize ordSV a = z at *
    generalize rordV t = u at *
    obtain ⟨x1, x2⟩ := x
    obtain ⟨⟨y1, y2⟩, y3⟩ := y
    obtain ⟨z1, z2⟩ := z
    obtain ⟨⟨u1, ⟨u2, u3, u4⟩, u5, u6, u7⟩, u8⟩ := u
    simp only [retS, retR3, retAk, Ak.dc] at *
    refine fn_ok (by kernel_rfl) ty_ok Tryd.func4 rfl (fun _ _ => Tryd.call4 _ _) rfl ?_
    intro hw
    clear hw
    repeat' ((conv => whnf); first | (with_reducible first | refine br_t ?_ | refine br_f ?_ | refine za ?_ | refine zg ?_) | refine zsl ?_ | refine zsg ?_ | refine zss ?_ | refine zs1 ?_ | refine zse ?_ | refine zsn ?_ | refine zsc ?_ | (with_reducible first | refine zpa ?_ | refine zqa ?_) | refine zp ?_ | refine zq ?_ | (with_reducible first | refine bc (fun h => ?_) (fun h => ?_) | refine zt ?_ | refine zf ?_ | refine br_i (fun h => ?_) (fun h => ?_) | refine xi (pv_bool fun _ => eqv23 _ _ _ _ _ _ _) ?_ | refine xi (pv_bool fun _ => eqv45 _ _ _ _ _ _ _ _ _ _ _ _ _ _ _ _ _) ?_) | refine zg ?_ | refine zi ?_ | refine zb ?_)
    all_goals conv => whnf
    all_goals first | rfl | (exfalso; omega) | exact r_bool (by simp)
  · refine fn_ok (by kernel_rfl) ty_ok Tryd.func4 rfl (fun _ _ => Tryd.call4 _ _) rfl ?_
    intro hw
    clear hw
    simp only [Ak.dc]
    repeat' ((conv => whnf); first | (with_reducible first | refine br_t ?_ | refine br_f ?_ | refine za ?_ | refine zg ?_) | refine zsl ?_ | refine zsg ?_ | refine zss ?_ | refine zs1 ?_ | refine zse ?_ | refine zsn ?_ | refine zsc ?_ | (with_reducible first | refine zpa ?_ | refine zqa ?_) | refine zp ?_ | refine zq ?_ | (with_reducible first | refine bc (fun h => ?_) (fun h => ?_) | refine zt ?_ | refine zf ?_ | refine br_i (fun h => ?_) (fun h => ?_) | refine xi (pv_bool fun _ => eqv23 _ _ _ _ _ _ _) ?_ | refine xi (pv_bool fun _ => eqv45 _ _ _ _ _ _ _ _ _ _ _ _ _ _ _ _ _) ?_) | refine zg ?_ | refine zi ?_ | refine zb ?_)
    all_goals conv => whnf
    all_goals first | rfl | (exfalso; omega)
end Go.Proofs.YtnalabphiaholaaDoor

namespace Go.Proofs.YtnalabphiaholaaDoor
open Go Go.RowKit Go.ChangeShapes Go.WideShapes Go.ChangeAt Sx
theorem configNumbers_own : ownKnob Tryd.prog.godebug = none := by kernel_rfl
set_option maxRecDepth 100000 in
theorem configNumbers_wit (os : Os) {H : Type} (enc : TypeId × Value → H) :
    (OpenSpec.ofChange Rows.configNumbersSpec).preRow enc Tryd.prog Tryd.f4 Rows.configNumbersRow.domain false Rows.configNumbersRow.laid ((laidWorld os).forCall (fun _ _ => 0) ⟨#[], #[.agg #[.int .i64 0, .int .i64 0], .agg #[.int .u8 0, .int .i64 0, .int .i64 0, .int .i64 0, .int .i64 0, .int .i64 0, .int .i64 0], .string ⟨#[]⟩, .string ⟨#[]⟩], []⟩).memory #[.agg #[.int .i64 0, .int .i64 0], .agg #[.int .u8 0, .int .i64 0, .int .i64 0, .int .i64 0, .int .i64 0, .int .i64 0, .int .i64 0], .string ⟨#[]⟩, .string ⟨#[]⟩] := by
  have hw : (DataW.whole enc Tryd.prog ((laidWorld os).forCall (fun _ _ => 0) ⟨#[], #[.agg #[.int .i64 0, .int .i64 0], .agg #[.int .u8 0, .int .i64 0, .int .i64 0, .int .i64 0, .int .i64 0, .int .i64 0, .int .i64 0], .string ⟨#[]⟩, .string ⟨#[]⟩], []⟩).memory Tryd.f4.params.toList (OpenSpec.ofChange Rows.configNumbersSpec).vars false (#[.agg #[.int .i64 0, .int .i64 0], .agg #[.int .u8 0, .int .i64 0, .int .i64 0, .int .i64 0, .int .i64 0, .int .i64 0, .int .i64 0], .string ⟨#[]⟩, .string ⟨#[]⟩] : Array Value).toList 8).map (fun x => (x.1, x.2.1)) =
      some ([.agg [.lit (.int .i64 0), .lit (.int .i64 0)], .agg [.lit (.int .u8 0), .agg [.lit (.int .i64 0), .lit (.int .i64 0), .lit (.int .i64 0)], .lit (.int .i64 0), .agg [.lit (.int .i64 0), .lit (.int .i64 0)]], .lit (.string []), .lit (.string [])], []) := by kernel_rfl
  obtain ⟨⟨x1, x2, x3⟩, hx, hx1⟩ := Option.map_eq_some_iff.1 hw
  simp only [Prod.mk.injEq] at hx1
  obtain ⟨rfl, rfl⟩ := hx1
  exact OpenSpec.preRow_of_cond 8 hx (by kernel_rfl) (fun k hk => by cases hk) (by kernel_rfl) (laid_met os _)
set_option maxRecDepth 100000 in
theorem configNumbers_lifted (os : Os) (started : os.Started) (H : Type) (enc : TypeId × Value → H) (F : Stop.Interp) :
    ReturnsInHanded {} Tryd.checked os 4 .any ((OpenSpec.ofChange Rows.configNumbersSpec).preRow enc Tryd.prog Tryd.f4 Rows.configNumbersRow.domain false Rows.configNumbersRow.laid) (((OpenSpec.ofChange Rows.configNumbersSpec).at F).post enc Tryd.prog Tryd.f4 false true false false) := by
  refine returnsInHanded_of_row (C := Tryd.checked) (s := OpenSpec.ofChange Rows.configNumbersSpec) configNumbers_own started (by kernel_rfl) Tryd.func4
    (witness_row_at (enc := enc) (C := Tryd.checked) false (laidWorld os) #[.agg #[.int .i64 0, .int .i64 0], .agg #[.int .u8 0, .int .i64 0, .int .i64 0, .int .i64 0, .int .i64 0, .int .i64 0, .int .i64 0], .string ⟨#[]⟩, .string ⟨#[]⟩] rfl (by kernel_rfl) (by kernel_rfl) (by kernel_rfl) (configNumbers_wit os enc)) ?_
  intro W base args ds gs before hval0 hW _ _ _ hL hsh _
  have hgd := gd_of hL hsh
  have hval : ∀ (j : Nat) t v, Tryd.f4.params[j]? = some t → args[j]? = some v → Value.okWide Tryd.prog W .any base t v := hval0
  have hW' := hW
  obtain ⟨p, q, hA0, hV, rfl, hfz, hnd⟩ := hW
  have hA : DataW.TrodAll enc Tryd.prog W 0 (fun _ => true) true Tryd.f4.params.toList args.toList ds p := hA0
  rw [Tryd.params4] at hA hval
  obtain ⟨v0, vs0, d0, ds0, p0, q0, hargs, rfl, rfl, h0, r0⟩ := trodAll_cons hA
  obtain ⟨v1, vs1, d1, ds1, p1, q1, rfl, rfl, rfl, h1, r1⟩ := trodAll_cons r0
  obtain ⟨v2, vs2, d2, ds2, p2, q2, rfl, rfl, rfl, h2, r2⟩ := trodAll_cons r1
  obtain ⟨v3, vs3, d3, ds3, p3, q3, rfl, rfl, rfl, h3, r3⟩ := trodAll_cons r2
  obtain ⟨rfl, rfl, rfl⟩ := trodAll_nil r3
  obtain rfl : args = #[v0, v1, v2, v3] := by cases args; simp_all
  obtain ⟨e0, hd0, hf0⟩ := arg_data (tyB_ok (s := shRatio) (by kernel_rfl)) (hval 0 23 v0 rfl rfl) h0
  obtain ⟨n, d, rfl⟩ := fit_ratio hf0
  obtain ⟨e1, hd1, hf1⟩ := arg_data (tyB_ok (s := shAskC) (by kernel_rfl)) (hval 1 45 v1 rfl rfl) h1
  obtain ⟨a, rfl⟩ := fit_askC hf1
  obtain ⟨e2, hd2, hf2⟩ := arg_data (tyB_ok (s := .str) (by kernel_rfl)) (hval 2 9 v2 rfl rfl) h2
  obtain ⟨s, hs, rfl⟩ := fit_str hf2
  obtain ⟨e3, hd3, hf3⟩ := arg_data (tyB_ok (s := .str) (by kernel_rfl)) (hval 3 9 v3 rfl rfl) h3
  obtain ⟨t, ht, rfl⟩ := fit_str hf3
  refine (law_of_fn (vs := [v0, v1, v2, v3]) (fun _ _ => Tryd.call4 _ _) (LCNumbers_fn n d a s hs t ht) hgd ⟨hd0, hd1, hd2, hd3, trivial⟩).mono fun e W' ⟨he, hb⟩ => ?_
  subst he
  exact ⟨_, rfl, law_post (s := Rows.configNumbersSpec) (by kernel_rfl) (by kernel_rfl) rfl Tryd.underlying4 rfl hW' ⟨rfl, rfl, rfl⟩ hb⟩
theorem configNumbers_and {a b : Bool} (h : a = true) (k : b = true) : (a && b) = true := by rw [h, k]; rfl
theorem configNumbers_c0 : (Rows.configNumbersRow.inPlace == Tryd.prog.inPlace 4) = true := by kernel_rfl
theorem configNumbers_c1 : (Rows.configNumbersRow.unfollowed == Tryd.prog.unfollowed 4) = true := by kernel_rfl
theorem configNumbers_c2 : (Rows.configNumbersRow.recurses == Tryd.prog.recurses 4) = true := by kernel_rfl
theorem configNumbers_c3 : (Rows.configNumbersRow.named == Tryd.prog.varsNamed 4) = true := by kernel_rfl
theorem configNumbers_c4 : (Rows.configNumbersRow.loops == (Tryd.f4.params.toList ++ (OpenSpec.ofChange Rows.configNumbersSpec).bare.plain.varTypes Tryd.prog).any (Tryd.prog.loopsFrom ·)) = true := by kernel_rfl
theorem configNumbers_c5 : laidOutB Tryd.prog = true := by kernel_rfl
theorem configNumbers_c6 : mapsRowed Tryd.prog = true := by kernel_rfl
theorem configNumbers_c7 : Tryd.prog.stopsHeard = true := by kernel_rfl
theorem configNumbers_c8 : Tryd.prog.mayEnter = true := by kernel_rfl
theorem configNumbers_facts : joinedFacts Tryd.prog 4 Tryd.f4 (OpenSpec.ofChange Rows.configNumbersSpec).bare Rows.configNumbersRow = true := by
  unfold joinedFacts
  repeat' (with_reducible refine configNumbers_and ?_ ?_)
  all_goals first | with_reducible exact configNumbers_c0 | with_reducible exact configNumbers_c1 | with_reducible exact configNumbers_c2 | with_reducible exact configNumbers_c3 | with_reducible exact configNumbers_c4 | with_reducible exact configNumbers_c5 | with_reducible exact configNumbers_c6 | with_reducible exact configNumbers_c7 | with_reducible exact configNumbers_c8 | kernel_rfl
theorem configNumbers_over : Rows.configNumbersRow.holds Tryd.pinned (OpenSpec.ofChange Rows.configNumbersSpec) :=
  OpenClaim.holds_of_cond 4 Tryd.f4 rfl rfl rfl rfl rfl rfl rfl ⟨rfl, rfl, rfl, rfl, rfl⟩ rfl rfl rfl rfl rfl (by kernel_rfl) Tryd.func4 configNumbers_facts
    (of_decide_eq_true (by kernel_rfl)) (by unfold Func.isWrapper; rw [if_neg (of_decide_eq_false (by kernel_rfl))]; exact ⟨rfl, rfl⟩)
    (fun os started H enc _ F0 => by rw [OpenClaim.pre_eq_preRow]; exact configNumbers_lifted os started H enc F0)
theorem configNumbers_params : (Tryd.f4.params.toList.all fun t => !Tryd.prog.wantsStandIn t) = true := by kernel_rfl
theorem configNumbers_proved : Rows.ConfigNumbersCardSaid :=
  Claim7.holds_tied_plain_at .later [] Rows.configNumbersCard.laidKinds true Rows.configNumbersCard.stood.harness false
    configNumbers_over (fun _ h => by cases h) (by kernel_rfl) (fun _ h => by cases h) configNumbers_row_tie rfl ⟨rfl, rfl⟩ (by kernel_rfl) rfl
    (fun f fn hf hfn => by
      obtain rfl : f = 4 := Option.some.inj (hf.symm.trans (show Tryd.prog.funcNamed "peloton/pelotonlaw44.ConfigNumbers" = some 4 by kernel_rfl))
      obtain rfl : fn = Tryd.f4 := (Option.some.inj (Tryd.func4.symm.trans hfn)).symm
      exact ⟨by kernel_rfl, fun j t ht => by
        have hm : t ∈ Tryd.f4.params.toList := by rw [Array.mem_toList_iff]; exact Array.mem_of_getElem? ht
        exact (by simpa using List.all_eq_true.1 configNumbers_params t hm : Tryd.prog.wantsStandIn t = false)⟩)
    (by kernel_rfl)
#print axioms configNumbers_proved
end Go.Proofs.YtnalabphiaholaaDoor
