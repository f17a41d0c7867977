import Derived.Test.YtgdpogdgpfjnoaaDoorGCAN
import Derived.Test.YtgdpogdgpfjnoaaDoorGCAL
import Derived.RangeFuncFrom
import Derived.RangeFuncLeaves
import Derived.RangeFuncBox
import Derived.WalkKit
import Derived.OwnWalkIn
import Derived.TacticsInMore
import Derived.RegionIn
import Derived.LoopNIn
import Derived.LoopIn
import Derived.RangeFuncCalls
set_option linter.all false
namespace Go.Proofs.YtgdpogdgpfjnoaaDoor
open Go Go.RowKit Go.Sort Sx
open Go.Lib hiding intOf
theorem joinS_C : ∀ l : List Str, joinS l = joinC 32 l
  | [] => rfl
  | [a] => rfl
  | a :: b :: l => by
    show a ++ 32 :: joinS (b :: l) = a ++ 32 :: joinC 32 (b :: l)
    rw [joinS_C (b :: l)]
theorem rdPt_3 {wh : Str → Int × Bool} : ∀ l : List Str, rdPt wh l = (rd3 wh l).map fun p => ⟨p.1, p.2.1, p.2.2⟩
  | [] => rfl
  | [_] => rfl
  | [_, _] => rfl
  | [a, b, c] => by
    show (if _ then some _ else none) = Option.map _ (if _ then some _ else none)
    split <;> rfl
  | _ :: _ :: _ :: _ :: _ => rfl
theorem kindW_rng (w : Str) : 0 ≤ kindW w ∧ kindW w ≤ 6 := by
  unfold kindW
  repeat' split
  all_goals omega
theorem kindW_word {w : Str} {k : Int} (hk : k = 1 ∨ k = 2 ∨ k = 3 ∨ k = 4 ∨ k = 5 ∨ k = 6) : wordK k = w ↔ kindW w = k := by
  constructor
  · rintro rfl; exact kind_word hk
  · intro h
    unfold kindW at h
    repeat' (split at h; · rename_i e; subst h; exact e.symm)
    omega
theorem joinC_tl (c : UInt8) (a : Str) : ∀ l : List Str, (joinC c l).length ≤ (joinC c (a :: l)).length
  | [] => Nat.zero_le _
  | b :: l => by
    show _ ≤ (a ++ c :: joinC c (b :: l)).length
    rw [List.length_append, List.length_cons]; omega
theorem join_spl (c : UInt8) : ∀ s : Str, joinC c (spl c s) = s
  | [] => rfl
  | b :: l => by
    have ih := join_spl c l
    have hne := spl_ne c l
    rw [spl]
    split
    · rename_i h
      subst h
      cases e : spl b l with
      | nil => exact absurd e hne
      | cons x y => rw [e] at ih; show [] ++ b :: joinC b (x :: y) = _; rw [ih]; rfl
    · split
      · rename_i h t e
        rw [e] at ih
        cases t with
        | nil => exact congrArg (b :: ·) ih
        | cons x y => exact congrArg (b :: ·) ih
      · rename_i e; exact absurd e hne
theorem oc_cases (a : Ak) (s : Str) : (ordSV a = (ordT a, 0) ∧ ordT a = s ∧ backA s a = (a, 0)) ∨ (ordSV a = (ordT a, 0) ∧ ordT a ≠ s ∧ backA s a = (ak0, 12)) ∨ (ordSV a = ([], 8) ∧ backA s a = (ak0, 12)) := by
  unfold ordSV backA
  by_cases h : akchk a = 0
  · rw [if_pos h]
    by_cases e : ordT a = s
    · exact .inl ⟨rfl, e, if_pos ⟨h, e⟩⟩
    · exact .inr (.inl ⟨rfl, e, if_neg fun k => e k.2⟩)
  · rw [if_neg h]
    exact .inr (.inr ⟨rfl, if_neg fun k => h k.1⟩)
def kdI (kk : Int) (i : Nat) : Int := if kk < i then kk else 0
abbrev retAk (x : Ak × Int) : DV := .tup [x.1.dc, .one (i64 x.2)]
set_option maxHeartbeats 4000000 in
theorem cReadOrder_fn (s : Str) (hs : s.length ≤ 1000) : FnOK Tryd.prog 28 [.one (str s)] (retAk (rordV s)) := by
  have Hs := @split_fn s 32 (by omega)
  have Hw := cwords_fn
  have hl1 := spl_len 32 s
  have hl2 := spl_each 32 s
  obtain ⟨w0, t, hL⟩ : ∃ w0 t, spl 32 s = w0 :: t := by
    cases h : spl 32 s with
    | nil => exact absurd h (spl_ne 32 s)
    | cons a b => exact ⟨a, b, rfl⟩
  unfold rordV
  rw [hL] at Hs hl1 hl2 ⊢
  simp only [List.headD_cons, List.tail_cons]
  obtain ⟨kk, hkk⟩ : ∃ kk, kk = kindW w0 := ⟨_, rfl⟩
  have hk := kindW_rng w0
  have f1 := @kindW_word w0 1 (by omega)
  have f2 := @kindW_word w0 2 (by omega)
  have f3 := @kindW_word w0 3 (by omega)
  have f4 := @kindW_word w0 4 (by omega)
  have f5 := @kindW_word w0 5 (by omega)
  have f6 := @kindW_word w0 6 (by omega)
  rw [← hkk] at hk f1 f2 f3 f4 f5 f6 ⊢
  have g0 : ((w0 :: t).map fun s => [str s])[(0 : Int).toNat]? = some [str w0] := rfl
  have gl : ((w0 :: t).map fun s => [str s]).length = t.length + 1 := by simp
  refine fn_ok (by kernel_rfl) ty_ok Tryd.func28 rfl (fun _ _ => Tryd.call28 _ _) rfl ?_
  intro hw
  clear hw
  repeat' ((conv => whnf); first | (with_reducible first | refine br_t ?_ | refine br_f ?_ | refine za ?_ | refine zg ?_) | refine zsl ?_ | refine zsg ?_ | refine zss ?_ | refine zs1 ?_ | refine zse ?_ | refine zsn ?_ | refine zsc ?_ | (with_reducible first | refine zpa ?_ | refine zqa ?_) | refine zp ?_ | refine zq ?_ | (with_reducible first | refine bc (fun h => ?_) (fun h => ?_) | refine zt ?_ | refine zf ?_ | refine br_i (fun h => ?_) (fun h => ?_)) | refine zg ?_ | refine zi ?_ | refine zb ?_)
  refine loop_J (by kernel_rfl) ty_ok (σ := Nat) (fun i => [(19, sV (.int .i64 (i : Nat)))]) (fun i => [(5, .own [.d (u8 (kdI kk i)), .d (i64 0), .d (i64 0), .d (i64 0), .d (i64 0), .d (i64 0), .d (i64 0)])]) (fun i => i ≤ 7) (fun i => 7 - i) 0 (by omega) ?_ ?_
  · have e0 : kdI kk 0 = 0 := by unfold kdI; split <;> omega
    rw [e0]
    (conv => whnf); exact zent
  · intro i hi
    by_cases h7 : i = 7
    · subst h7
      have e7 : kdI kk 7 = kk := by unfold kdI; split <;> omega
      rw [e7]
      have hT : List.drop (Int.toNat 1) (List.take ((((w0 :: t).map fun s => [str s]).length : Nat) : Int).toNat ((w0 :: t).map fun s => [str s])) = t.map fun s => [str s] := by
        rw [Int.toNat_natCast, List.take_length]; rfl
      have ht : ∀ x ∈ t, x.length ≤ s.length := fun x hx => hl2 x (List.mem_cons_of_mem _ hx)
      have hj : (joinC 32 t).length ≤ 1000000 := by
        have h1 := join_spl 32 s
        rw [hL] at h1
        have h2 := joinC_tl 32 w0 t
        rw [h1] at h2
        omega
      have Hr := creadPoint_fn t (by simp only [List.length_cons] at hl1; omega) fun x hx => Nat.le_trans (ht x hx) (by omega)
      have Hj := @join_fn t 32 (by simp only [List.length_cons] at hl1; omega) hj
      rw [show strs t = .list 1 (List.drop (Int.toNat 1) (List.take ((((w0 :: t).map fun s => [str s]).length : Nat) : Int).toNat ((w0 :: t).map fun s => [str s]))) by rw [hT]] at Hr Hj
      have Ho := whole_fn (joinC 32 t) hj
      have Hn := cReadNumber_fn (joinC 32 t) hj
      clear hT f1 f2 f3 f4 f5 f6 hkk hs hl1 hl2 ht
      unfold rvK
      rw [rdPt_3, joinS_C]
      rcases (show kk = 0 ∨ kk = 1 ∨ kk = 2 ∨ kk = 3 ∨ kk = 4 ∨ kk = 5 ∨ kk = 6 by omega) with rfl | rfl | rfl | rfl | rfl | rfl | rfl
      · rw [if_neg (by decide), if_neg (by decide), if_neg (by decide)]
        have Hor := cOrder_fn ⟨0, ⟨0, 0, 0⟩, 0, 0, 0⟩
        rcases oc_cases ⟨0, ⟨0, 0, 0⟩, 0, 0, 0⟩ s with ⟨e, h, b⟩ | ⟨e, h, b⟩ | ⟨e, b⟩
        all_goals rw [e] at Hor
        all_goals rw [b]
        all_goals simp only [retS, Ak.dc] at Hor ⊢
        all_goals clear e b
        repeat' ((conv => whnf); first | (with_reducible first | refine br_t ?_ | refine br_f ?_ | refine za ?_ | refine zg ?_) | refine zsl ?_ | refine zsg ?_ | refine zss ?_ | refine zs1 ?_ | refine zse ?_ | refine zsn ?_ | refine zsc ?_ | (with_reducible first | refine zpa ?_ | refine zqa ?_) | refine zp ?_ | refine zq ?_ | (with_reducible first | refine bc (fun h => ?_) (fun h => ?_) | refine zt ?_ | refine zf ?_ | refine br_i (fun h => ?_) (fun h => ?_)) | refine zg ?_ | refine zi ?_ | refine zb ?_)
        all_goals conv => whnf
        all_goals first | rfl | contradiction
      · rw [if_pos (by decide)]
        cases hp : rd3 wholeV t with
        | none =>
          rw [hp] at Hr
          simp only [Option.map_none, retPo] at Hr ⊢
          repeat' ((conv => whnf); first | (with_reducible first | refine br_t ?_ | refine br_f ?_ | refine za ?_ | refine zg ?_) | refine zsl ?_ | refine zsg ?_ | refine zss ?_ | refine zs1 ?_ | refine zse ?_ | refine zsn ?_ | refine zsc ?_ | (with_reducible first | refine zpa ?_ | refine zqa ?_) | refine zp ?_ | refine zq ?_ | (with_reducible first | refine bc (fun h => ?_) (fun h => ?_) | refine zt ?_ | refine zf ?_ | refine br_i (fun h => ?_) (fun h => ?_)) | refine zg ?_ | refine zi ?_ | refine zb ?_)
          all_goals conv => whnf
          all_goals first | rfl | contradiction
        | some p =>
          obtain ⟨p1, p2, p3⟩ := p
          rw [hp] at Hr
          simp only [Option.map_some, retPo] at Hr ⊢
          have Hor := cOrder_fn ⟨1, ⟨p1, p2, p3⟩, 0, 0, 0⟩
          rcases oc_cases ⟨1, ⟨p1, p2, p3⟩, 0, 0, 0⟩ s with ⟨e, h, b⟩ | ⟨e, h, b⟩ | ⟨e, b⟩
          all_goals rw [e] at Hor
          all_goals rw [b]
          all_goals simp only [retS, Ak.dc] at Hor ⊢
          all_goals clear e b
          repeat' ((conv => whnf); first | (with_reducible first | refine br_t ?_ | refine br_f ?_ | refine za ?_ | refine zg ?_) | refine zsl ?_ | refine zsg ?_ | refine zss ?_ | refine zs1 ?_ | refine zse ?_ | refine zsn ?_ | refine zsc ?_ | (with_reducible first | refine zpa ?_ | refine zqa ?_) | refine zp ?_ | refine zq ?_ | (with_reducible first | refine bc (fun h => ?_) (fun h => ?_) | refine zt ?_ | refine zf ?_ | refine br_i (fun h => ?_) (fun h => ?_)) | refine zg ?_ | refine zi ?_ | refine zb ?_)
          all_goals conv => whnf
          all_goals first | rfl | contradiction
      · rw [if_neg (by decide), if_pos rfl]
        generalize wholeV (joinC 32 t) = q at *
        obtain ⟨qn, qb⟩ := q
        simp only [retWh] at Ho ⊢
        cases qb
        · rw [if_neg (by decide)]
          repeat' ((conv => whnf); first | (with_reducible first | refine br_t ?_ | refine br_f ?_ | refine za ?_ | refine zg ?_) | refine zsl ?_ | refine zsg ?_ | refine zss ?_ | refine zs1 ?_ | refine zse ?_ | refine zsn ?_ | refine zsc ?_ | (with_reducible first | refine zpa ?_ | refine zqa ?_) | refine zp ?_ | refine zq ?_ | (with_reducible first | refine bc (fun h => ?_) (fun h => ?_) | refine zt ?_ | refine zf ?_ | refine br_i (fun h => ?_) (fun h => ?_)) | refine zg ?_ | refine zi ?_ | refine zb ?_)
          all_goals conv => whnf
          all_goals first | rfl | contradiction
        · rw [if_pos rfl]
          have Hor := cOrder_fn ⟨2, ⟨0, 0, 0⟩, qn, 0, 0⟩
          rcases oc_cases ⟨2, ⟨0, 0, 0⟩, qn, 0, 0⟩ s with ⟨e, h, b⟩ | ⟨e, h, b⟩ | ⟨e, b⟩
          all_goals rw [e] at Hor
          all_goals rw [b]
          all_goals simp only [retS, Ak.dc] at Hor ⊢
          all_goals clear e b
          repeat' ((conv => whnf); first | (with_reducible first | refine br_t ?_ | refine br_f ?_ | refine za ?_ | refine zg ?_) | refine zsl ?_ | refine zsg ?_ | refine zss ?_ | refine zs1 ?_ | refine zse ?_ | refine zsn ?_ | refine zsc ?_ | (with_reducible first | refine zpa ?_ | refine zqa ?_) | refine zp ?_ | refine zq ?_ | (with_reducible first | refine bc (fun h => ?_) (fun h => ?_) | refine zt ?_ | refine zf ?_ | refine br_i (fun h => ?_) (fun h => ?_)) | refine zg ?_ | refine zi ?_ | refine zb ?_)
          all_goals conv => whnf
          all_goals first | rfl | contradiction
      · rw [if_pos (by decide)]
        cases hp : rd3 wholeV t with
        | none =>
          rw [hp] at Hr
          simp only [Option.map_none, retPo] at Hr ⊢
          repeat' ((conv => whnf); first | (with_reducible first | refine br_t ?_ | refine br_f ?_ | refine za ?_ | refine zg ?_) | refine zsl ?_ | refine zsg ?_ | refine zss ?_ | refine zs1 ?_ | refine zse ?_ | refine zsn ?_ | refine zsc ?_ | (with_reducible first | refine zpa ?_ | refine zqa ?_) | refine zp ?_ | refine zq ?_ | (with_reducible first | refine bc (fun h => ?_) (fun h => ?_) | refine zt ?_ | refine zf ?_ | refine br_i (fun h => ?_) (fun h => ?_)) | refine zg ?_ | refine zi ?_ | refine zb ?_)
          all_goals conv => whnf
          all_goals first | rfl | contradiction
        | some p =>
          obtain ⟨p1, p2, p3⟩ := p
          rw [hp] at Hr
          simp only [Option.map_some, retPo] at Hr ⊢
          have Hor := cOrder_fn ⟨3, ⟨p1, p2, p3⟩, 0, 0, 0⟩
          rcases oc_cases ⟨3, ⟨p1, p2, p3⟩, 0, 0, 0⟩ s with ⟨e, h, b⟩ | ⟨e, h, b⟩ | ⟨e, b⟩
          all_goals rw [e] at Hor
          all_goals rw [b]
          all_goals simp only [retS, Ak.dc] at Hor ⊢
          all_goals clear e b
          repeat' ((conv => whnf); first | (with_reducible first | refine br_t ?_ | refine br_f ?_ | refine za ?_ | refine zg ?_) | refine zsl ?_ | refine zsg ?_ | refine zss ?_ | refine zs1 ?_ | refine zse ?_ | refine zsn ?_ | refine zsc ?_ | (with_reducible first | refine zpa ?_ | refine zqa ?_) | refine zp ?_ | refine zq ?_ | (with_reducible first | refine bc (fun h => ?_) (fun h => ?_) | refine zt ?_ | refine zf ?_ | refine br_i (fun h => ?_) (fun h => ?_)) | refine zg ?_ | refine zi ?_ | refine zb ?_)
          all_goals conv => whnf
          all_goals first | rfl | contradiction
      · rw [if_neg (by decide), if_neg (by decide), if_pos rfl]
        generalize readV (joinC 32 t) = q at *
        obtain ⟨⟨qn, qd⟩, qe⟩ := q
        simp only [retR3] at Hn ⊢
        by_cases h0 : qe = 0
        · subst h0
          rw [if_pos rfl]
          have Hor := cOrder_fn ⟨4, ⟨0, 0, 0⟩, 0, qn, qd⟩
          rcases oc_cases ⟨4, ⟨0, 0, 0⟩, 0, qn, qd⟩ s with ⟨e, h, b⟩ | ⟨e, h, b⟩ | ⟨e, b⟩
          all_goals rw [e] at Hor
          all_goals rw [b]
          all_goals simp only [retS, Ak.dc] at Hor ⊢
          all_goals clear e b
          repeat' ((conv => whnf); first | (with_reducible first | refine br_t ?_ | refine br_f ?_ | refine za ?_ | refine zg ?_) | refine zsl ?_ | refine zsg ?_ | refine zss ?_ | refine zs1 ?_ | refine zse ?_ | refine zsn ?_ | refine zsc ?_ | (with_reducible first | refine zpa ?_ | refine zqa ?_) | refine zp ?_ | refine zq ?_ | (with_reducible first | refine bc (fun h => ?_) (fun h => ?_) | refine zt ?_ | refine zf ?_ | refine br_i (fun h => ?_) (fun h => ?_)) | refine zg ?_ | refine zi ?_ | refine zb ?_)
          all_goals conv => whnf
          all_goals first | rfl | contradiction
        · rw [if_neg h0]
          repeat' ((conv => whnf); first | (with_reducible first | refine br_t ?_ | refine br_f ?_ | refine za ?_ | refine zg ?_) | refine zsl ?_ | refine zsg ?_ | refine zss ?_ | refine zs1 ?_ | refine zse ?_ | refine zsn ?_ | refine zsc ?_ | (with_reducible first | refine zpa ?_ | refine zqa ?_) | refine zp ?_ | refine zq ?_ | (with_reducible first | refine bc (fun h => ?_) (fun h => ?_) | refine zt ?_ | refine zf ?_ | refine br_i (fun h => ?_) (fun h => ?_)) | refine zg ?_ | refine zi ?_ | refine zb ?_)
          all_goals conv => whnf
          all_goals first | rfl | contradiction
      · rw [if_neg (by decide), if_neg (by decide), if_neg (by decide)]
        have Hor := cOrder_fn ⟨5, ⟨0, 0, 0⟩, 0, 0, 0⟩
        rcases oc_cases ⟨5, ⟨0, 0, 0⟩, 0, 0, 0⟩ s with ⟨e, h, b⟩ | ⟨e, h, b⟩ | ⟨e, b⟩
        all_goals rw [e] at Hor
        all_goals rw [b]
        all_goals simp only [retS, Ak.dc] at Hor ⊢
        all_goals clear e b
        repeat' ((conv => whnf); first | (with_reducible first | refine br_t ?_ | refine br_f ?_ | refine za ?_ | refine zg ?_) | refine zsl ?_ | refine zsg ?_ | refine zss ?_ | refine zs1 ?_ | refine zse ?_ | refine zsn ?_ | refine zsc ?_ | (with_reducible first | refine zpa ?_ | refine zqa ?_) | refine zp ?_ | refine zq ?_ | (with_reducible first | refine bc (fun h => ?_) (fun h => ?_) | refine zt ?_ | refine zf ?_ | refine br_i (fun h => ?_) (fun h => ?_)) | refine zg ?_ | refine zi ?_ | refine zb ?_)
        all_goals conv => whnf
        all_goals first | rfl | contradiction
      · rw [if_neg (by decide), if_neg (by decide), if_neg (by decide)]
        have Hor := cOrder_fn ⟨6, ⟨0, 0, 0⟩, 0, 0, 0⟩
        rcases oc_cases ⟨6, ⟨0, 0, 0⟩, 0, 0, 0⟩ s with ⟨e, h, b⟩ | ⟨e, h, b⟩ | ⟨e, b⟩
        all_goals rw [e] at Hor
        all_goals rw [b]
        all_goals simp only [retS, Ak.dc] at Hor ⊢
        all_goals clear e b
        repeat' ((conv => whnf); first | (with_reducible first | refine br_t ?_ | refine br_f ?_ | refine za ?_ | refine zg ?_) | refine zsl ?_ | refine zsg ?_ | refine zss ?_ | refine zs1 ?_ | refine zse ?_ | refine zsn ?_ | refine zsc ?_ | (with_reducible first | refine zpa ?_ | refine zqa ?_) | refine zp ?_ | refine zq ?_ | (with_reducible first | refine bc (fun h => ?_) (fun h => ?_) | refine zt ?_ | refine zf ?_ | refine br_i (fun h => ?_) (fun h => ?_)) | refine zg ?_ | refine zi ?_ | refine zb ?_)
        all_goals conv => whnf
        all_goals first | rfl | contradiction
    · rcases (show i = 0 ∨ i = 1 ∨ i = 2 ∨ i = 3 ∨ i = 4 ∨ i = 5 ∨ i = 6 by omega) with rfl | rfl | rfl | rfl | rfl | rfl | rfl
      · have e0 : kdI kk 0 = kdI kk 1 := by
          unfold kdI
          repeat' split
          all_goals omega
        rw [e0]
        repeat' ((conv => whnf); first | (with_reducible first | refine br_t ?_ | refine br_f ?_ | refine za ?_ | refine zg ?_) | refine zsl ?_ | refine zsg ?_ | refine zss ?_ | refine zs1 ?_ | refine zse ?_ | refine zsn ?_ | refine zsc ?_ | (with_reducible first | refine zpa ?_ | refine zqa ?_) | refine zp ?_ | refine zq ?_ | (with_reducible first | refine bc (fun h => ?_) (fun h => ?_) | refine zt ?_ | refine zf ?_ | refine br_i (fun h => ?_) (fun h => ?_)) | refine zg ?_ | refine zi ?_ | refine zb ?_)
        all_goals conv => whnf
        all_goals first | contradiction | refine ⟨1, by omega, ?_, by omega⟩
        (conv => whnf); exact zent
      · by_cases hw : wPut = w0
        · have ek : kk = 1 := f1.1 hw
          have e0 : kdI kk 1 = 0 := by unfold kdI; rw [if_neg (by omega)]
          have e1 : kdI kk 2 = 1 := by unfold kdI; rw [if_pos (by omega)]; omega
          rw [e0]
          repeat' ((conv => whnf); first | (with_reducible first | refine br_t ?_ | refine br_f ?_ | refine za ?_ | refine zg ?_) | refine zsl ?_ | refine zsg ?_ | refine zss ?_ | refine zs1 ?_ | refine zse ?_ | refine zsn ?_ | refine zsc ?_ | (with_reducible first | refine zpa ?_ | refine zqa ?_) | refine zp ?_ | refine zq ?_ | (with_reducible first | refine bc (fun h => ?_) (fun h => ?_) | refine zt ?_ | refine zf ?_ | refine br_i (fun h => ?_) (fun h => ?_)) | refine zg ?_ | refine zi ?_ | refine zb ?_)
          all_goals conv => whnf
          all_goals first | contradiction | refine ⟨2, by omega, ?_, by omega⟩
          all_goals rw [e1]
          (conv => whnf); exact zent
        · have ek : kk ≠ 1 := fun h => hw (f1.2 h)
          have e0 : kdI kk 1 = kdI kk 2 := by
            unfold kdI
            repeat' split
            all_goals omega
          rw [e0]
          repeat' ((conv => whnf); first | (with_reducible first | refine br_t ?_ | refine br_f ?_ | refine za ?_ | refine zg ?_) | refine zsl ?_ | refine zsg ?_ | refine zss ?_ | refine zs1 ?_ | refine zse ?_ | refine zsn ?_ | refine zsc ?_ | (with_reducible first | refine zpa ?_ | refine zqa ?_) | refine zp ?_ | refine zq ?_ | (with_reducible first | refine bc (fun h => ?_) (fun h => ?_) | refine zt ?_ | refine zf ?_ | refine br_i (fun h => ?_) (fun h => ?_)) | refine zg ?_ | refine zi ?_ | refine zb ?_)
          all_goals conv => whnf
          all_goals first | contradiction | refine ⟨2, by omega, ?_, by omega⟩
          (conv => whnf); exact zent
      · by_cases hw : wTake = w0
        · have ek : kk = 2 := f2.1 hw
          have e0 : kdI kk 2 = 0 := by unfold kdI; rw [if_neg (by omega)]
          have e1 : kdI kk 3 = 2 := by unfold kdI; rw [if_pos (by omega)]; omega
          rw [e0]
          repeat' ((conv => whnf); first | (with_reducible first | refine br_t ?_ | refine br_f ?_ | refine za ?_ | refine zg ?_) | refine zsl ?_ | refine zsg ?_ | refine zss ?_ | refine zs1 ?_ | refine zse ?_ | refine zsn ?_ | refine zsc ?_ | (with_reducible first | refine zpa ?_ | refine zqa ?_) | refine zp ?_ | refine zq ?_ | (with_reducible first | refine bc (fun h => ?_) (fun h => ?_) | refine zt ?_ | refine zf ?_ | refine br_i (fun h => ?_) (fun h => ?_)) | refine zg ?_ | refine zi ?_ | refine zb ?_)
          all_goals conv => whnf
          all_goals first | contradiction | refine ⟨3, by omega, ?_, by omega⟩
          all_goals rw [e1]
          (conv => whnf); exact zent
        · have ek : kk ≠ 2 := fun h => hw (f2.2 h)
          have e0 : kdI kk 2 = kdI kk 3 := by
            unfold kdI
            repeat' split
            all_goals omega
          rw [e0]
          repeat' ((conv => whnf); first | (with_reducible first | refine br_t ?_ | refine br_f ?_ | refine za ?_ | refine zg ?_) | refine zsl ?_ | refine zsg ?_ | refine zss ?_ | refine zs1 ?_ | refine zse ?_ | refine zsn ?_ | refine zsc ?_ | (with_reducible first | refine zpa ?_ | refine zqa ?_) | refine zp ?_ | refine zq ?_ | (with_reducible first | refine bc (fun h => ?_) (fun h => ?_) | refine zt ?_ | refine zf ?_ | refine br_i (fun h => ?_) (fun h => ?_)) | refine zg ?_ | refine zi ?_ | refine zb ?_)
          all_goals conv => whnf
          all_goals first | contradiction | refine ⟨3, by omega, ?_, by omega⟩
          (conv => whnf); exact zent
      · by_cases hw : wChange = w0
        · have ek : kk = 3 := f3.1 hw
          have e0 : kdI kk 3 = 0 := by unfold kdI; rw [if_neg (by omega)]
          have e1 : kdI kk 4 = 3 := by unfold kdI; rw [if_pos (by omega)]; omega
          rw [e0]
          repeat' ((conv => whnf); first | (with_reducible first | refine br_t ?_ | refine br_f ?_ | refine za ?_ | refine zg ?_) | refine zsl ?_ | refine zsg ?_ | refine zss ?_ | refine zs1 ?_ | refine zse ?_ | refine zsn ?_ | refine zsc ?_ | (with_reducible first | refine zpa ?_ | refine zqa ?_) | refine zp ?_ | refine zq ?_ | (with_reducible first | refine bc (fun h => ?_) (fun h => ?_) | refine zt ?_ | refine zf ?_ | refine br_i (fun h => ?_) (fun h => ?_)) | refine zg ?_ | refine zi ?_ | refine zb ?_)
          all_goals conv => whnf
          all_goals first | contradiction | refine ⟨4, by omega, ?_, by omega⟩
          all_goals rw [e1]
          (conv => whnf); exact zent
        · have ek : kk ≠ 3 := fun h => hw (f3.2 h)
          have e0 : kdI kk 3 = kdI kk 4 := by
            unfold kdI
            repeat' split
            all_goals omega
          rw [e0]
          repeat' ((conv => whnf); first | (with_reducible first | refine br_t ?_ | refine br_f ?_ | refine za ?_ | refine zg ?_) | refine zsl ?_ | refine zsg ?_ | refine zss ?_ | refine zs1 ?_ | refine zse ?_ | refine zsn ?_ | refine zsc ?_ | (with_reducible first | refine zpa ?_ | refine zqa ?_) | refine zp ?_ | refine zq ?_ | (with_reducible first | refine bc (fun h => ?_) (fun h => ?_) | refine zt ?_ | refine zf ?_ | refine br_i (fun h => ?_) (fun h => ?_)) | refine zg ?_ | refine zi ?_ | refine zb ?_)
          all_goals conv => whnf
          all_goals first | contradiction | refine ⟨4, by omega, ?_, by omega⟩
          (conv => whnf); exact zent
      · by_cases hw : wMove = w0
        · have ek : kk = 4 := f4.1 hw
          have e0 : kdI kk 4 = 0 := by unfold kdI; rw [if_neg (by omega)]
          have e1 : kdI kk 5 = 4 := by unfold kdI; rw [if_pos (by omega)]; omega
          rw [e0]
          repeat' ((conv => whnf); first | (with_reducible first | refine br_t ?_ | refine br_f ?_ | refine za ?_ | refine zg ?_) | refine zsl ?_ | refine zsg ?_ | refine zss ?_ | refine zs1 ?_ | refine zse ?_ | refine zsn ?_ | refine zsc ?_ | (with_reducible first | refine zpa ?_ | refine zqa ?_) | refine zp ?_ | refine zq ?_ | (with_reducible first | refine bc (fun h => ?_) (fun h => ?_) | refine zt ?_ | refine zf ?_ | refine br_i (fun h => ?_) (fun h => ?_)) | refine zg ?_ | refine zi ?_ | refine zb ?_)
          all_goals conv => whnf
          all_goals first | contradiction | refine ⟨5, by omega, ?_, by omega⟩
          all_goals rw [e1]
          (conv => whnf); exact zent
        · have ek : kk ≠ 4 := fun h => hw (f4.2 h)
          have e0 : kdI kk 4 = kdI kk 5 := by
            unfold kdI
            repeat' split
            all_goals omega
          rw [e0]
          repeat' ((conv => whnf); first | (with_reducible first | refine br_t ?_ | refine br_f ?_ | refine za ?_ | refine zg ?_) | refine zsl ?_ | refine zsg ?_ | refine zss ?_ | refine zs1 ?_ | refine zse ?_ | refine zsn ?_ | refine zsc ?_ | (with_reducible first | refine zpa ?_ | refine zqa ?_) | refine zp ?_ | refine zq ?_ | (with_reducible first | refine bc (fun h => ?_) (fun h => ?_) | refine zt ?_ | refine zf ?_ | refine br_i (fun h => ?_) (fun h => ?_)) | refine zg ?_ | refine zi ?_ | refine zb ?_)
          all_goals conv => whnf
          all_goals first | contradiction | refine ⟨5, by omega, ?_, by omega⟩
          (conv => whnf); exact zent
      · by_cases hw : wLead = w0
        · have ek : kk = 5 := f5.1 hw
          have e0 : kdI kk 5 = 0 := by unfold kdI; rw [if_neg (by omega)]
          have e1 : kdI kk 6 = 5 := by unfold kdI; rw [if_pos (by omega)]; omega
          rw [e0]
          repeat' ((conv => whnf); first | (with_reducible first | refine br_t ?_ | refine br_f ?_ | refine za ?_ | refine zg ?_) | refine zsl ?_ | refine zsg ?_ | refine zss ?_ | refine zs1 ?_ | refine zse ?_ | refine zsn ?_ | refine zsc ?_ | (with_reducible first | refine zpa ?_ | refine zqa ?_) | refine zp ?_ | refine zq ?_ | (with_reducible first | refine bc (fun h => ?_) (fun h => ?_) | refine zt ?_ | refine zf ?_ | refine br_i (fun h => ?_) (fun h => ?_)) | refine zg ?_ | refine zi ?_ | refine zb ?_)
          all_goals conv => whnf
          all_goals first | contradiction | refine ⟨6, by omega, ?_, by omega⟩
          all_goals rw [e1]
          (conv => whnf); exact zent
        · have ek : kk ≠ 5 := fun h => hw (f5.2 h)
          have e0 : kdI kk 5 = kdI kk 6 := by
            unfold kdI
            repeat' split
            all_goals omega
          rw [e0]
          repeat' ((conv => whnf); first | (with_reducible first | refine br_t ?_ | refine br_f ?_ | refine za ?_ | refine zg ?_) | refine zsl ?_ | refine zsg ?_ | refine zss ?_ | refine zs1 ?_ | refine zse ?_ | refine zsn ?_ | refine zsc ?_ | (with_reducible first | refine zpa ?_ | refine zqa ?_) | refine zp ?_ | refine zq ?_ | (with_reducible first | refine bc (fun h => ?_) (fun h => ?_) | refine zt ?_ | refine zf ?_ | refine br_i (fun h => ?_) (fun h => ?_)) | refine zg ?_ | refine zi ?_ | refine zb ?_)
          all_goals conv => whnf
          all_goals first | contradiction | refine ⟨6, by omega, ?_, by omega⟩
          (conv => whnf); exact zent
      · by_cases hw : wClose = w0
        · have ek : kk = 6 := f6.1 hw
          have e0 : kdI kk 6 = 0 := by unfold kdI; rw [if_neg (by omega)]
          have e1 : kdI kk 7 = 6 := by unfold kdI; rw [if_pos (by omega)]; omega
          rw [e0]
          repeat' ((conv => whnf); first | (with_reducible first | refine br_t ?_ | refine br_f ?_ | refine za ?_ | refine zg ?_) | refine zsl ?_ | refine zsg ?_ | refine zss ?_ | refine zs1 ?_ | refine zse ?_ | refine zsn ?_ | refine zsc ?_ | (with_reducible first | refine zpa ?_ | refine zqa ?_) | refine zp ?_ | refine zq ?_ | (with_reducible first | refine bc (fun h => ?_) (fun h => ?_) | refine zt ?_ | refine zf ?_ | refine br_i (fun h => ?_) (fun h => ?_)) | refine zg ?_ | refine zi ?_ | refine zb ?_)
          all_goals conv => whnf
          all_goals first | contradiction | refine ⟨7, by omega, ?_, by omega⟩
          all_goals rw [e1]
          (conv => whnf); exact zent
        · have ek : kk ≠ 6 := fun h => hw (f6.2 h)
          have e0 : kdI kk 6 = kdI kk 7 := by
            unfold kdI
            repeat' split
            all_goals omega
          rw [e0]
          repeat' ((conv => whnf); first | (with_reducible first | refine br_t ?_ | refine br_f ?_ | refine za ?_ | refine zg ?_) | refine zsl ?_ | refine zsg ?_ | refine zss ?_ | refine zs1 ?_ | refine zse ?_ | refine zsn ?_ | refine zsc ?_ | (with_reducible first | refine zpa ?_ | refine zqa ?_) | refine zp ?_ | refine zq ?_ | (with_reducible first | refine bc (fun h => ?_) (fun h => ?_) | refine zt ?_ | refine zf ?_ | refine br_i (fun h => ?_) (fun h => ?_)) | refine zg ?_ | refine zi ?_ | refine zb ?_)
          all_goals conv => whnf
          all_goals first | contradiction | refine ⟨7, by omega, ?_, by omega⟩
          (conv => whnf); exact zent
end Go.Proofs.YtgdpogdgpfjnoaaDoor

namespace Go.Proofs.YtgdpogdgpfjnoaaDoor
open Go Go.RowKit Go.Sort Sx
open Go.Lib hiding intOf
theorem akchk_08 (a : Ak) : akchk a = 0 ∨ akchk a = 8 := by
  unfold akchk
  split
  · exact .inl rfl
  · exact .inr rfl
end Go.Proofs.YtgdpogdgpfjnoaaDoor

namespace Go.Proofs.YtgdpogdgpfjnoaaDoor
open Go Go.RowKit Go.Sort Sx
open Go.Lib hiding intOf
abbrev retMd (x : Md × Int) : DV := .tup [x.1.dc, .one (i64 x.2)]
theorem bm_cases (m : Md) (s : Str) : (mchk m = 0 ∧ textT m = s ∧ backM s (some m) = (m, 0)) ∨ (mchk m = 0 ∧ textT m ≠ s ∧ backM s (some m) = (mdZ, 12)) ∨ (mchk m = 8 ∧ backM s (some m) = (mdZ, 12)) := by
  rcases mchk_08 m with h | h
  · by_cases e : textT m = s
    · exact .inl ⟨h, e, backM_of h e⟩
    · exact .inr (.inl ⟨h, e, by unfold backM; dsimp only; rw [if_neg fun k => e k.2]⟩)
  · exact .inr (.inr ⟨h, by unfold backM; dsimp only; rw [if_neg fun k => by omega]⟩)
end Go.Proofs.YtgdpogdgpfjnoaaDoor

namespace Go.Proofs.YtgdpogdgpfjnoaaDoor
open Go Go.RowKit
def SeqEnds {α : Type} (n : Nat) (P : Program) (g : Nat) (lb : Array Value) (encs : α → Array Value) (bs : Nat → Prop) (xs : List α) (w : World) : Prop :=
  ∀ (lp : Nat) (J : List α → World → Prop) (Jx : World → Prop) (W : World), w.heap.size ≤ W.heap.size → (∀ b, bs b → W.heap[b]? = w.heap[b]?) →
    (∀ pre A B row, J pre A → A.grownBy B row → (∀ r, row = some r → bs r) → J pre B) →
    (∀ pre x post W1, pre ++ x :: post = xs → J pre W1 → YieldAt Fence.wide (n - 1) P lp (encs x) W1 fun e W' => (e = .returned (.bool true) ∧ J (pre ++ [x]) W' ∧ W1.heap.size ≤ W'.heap.size ∧ ∀ b, bs b → W'.heap[b]? = W1.heap[b]?) ∨ (e = .returned (.bool false) ∧ Jx W')) → J [] W →
    CallsIn Fence.wide n P g (#[.func (.yield lp) #[] #[]] ++ lb) W fun e W' => (∃ v, e = .returned v) ∧ (J xs W' ∨ Jx W')
def endsPost {α : Type} (bs : Nat → Prop) (I : List α → World → Prop) (Ix : World → Prop) (pre : List α) (W : World) : Exit → Act → World → Prop
  | .normal, _, W' => KeepsOthers W W' ∧ (∀ b, bs b → W'.heap[b]? = W.heap[b]?) ∧ I pre W'
  | .ret, _, W' => KeepsOthers W W' ∧ Ix W'
  | _, _, _ => False
theorem wpIn_rangeEnds {P : Program} {α : Type} {g : Operand} {ps : Array Tmp} {assign body : Code} {Q : Exit → Act → World → Prop} {a : Act} {w : World} {n : Nat} (h1 : 1 ≤ n) {gf : Nat} {lb : Array Value} (hg : a.eval g = .func (.func gf) #[] lb)
    (eg : ∀ args w, (callFunc gf args).run P w = .ok (.enter gf args) w) {encs : α → Array Value} {bs : Nat → Prop} {xs : List α} (hseq : SeqEnds (n - 1) P gf lb encs bs xs w) (hbs : ∀ b, bs b → b < w.heap.size) (hps : ∀ x, (encs x).size = ps.size)
    (I : List α → World → Prop) (Ix : World → Prop)
    (hI : ∀ pre A B row, I pre A → A.grownBy B row → (∀ r, row = some r → bs r ∨ (w.heap.size ≤ r ∧ ∃ o : Obj, A.heap[r]? = some o ∧ o.isCells = false)) → I pre B)
    (hIx : ∀ A B row, Ix A → A.grownBy B row → (∀ r, row = some r → w.heap.size ≤ r ∧ ∃ o : Obj, A.heap[r]? = some o ∧ o.isCells = false) → Ix B)
    (h0 : I [] w) (a₁ : α → Act)
    (hassign : ∀ (lp : Nat) (x : α) (W : World) (K : Act → World → Prop), K (a₁ x) W → assign.wpIn (Fence.wide.inRound lp) (n - 1 - 1) P (Exit.then K (fun _ _ _ => False)) { tmps := (ps.zip (encs x)).foldl (fun t (p, v) => t.setIfInBounds p v) a.tmps, defers := [] } W)
    (hbody : ∀ (lp : Nat) (pre : List α) (x : α) (post : List α) (W : World), pre ++ x :: post = xs → I pre W → body.wpIn (Fence.wide.inRound lp) (n - 1 - 1) P (endsPost bs I Ix (pre ++ [x]) W) (a₁ x) W)
    (hdone : ∀ (D : Nat) (W : World), w.heap.size ≤ D → I xs W → W.heap[D]? = some (.deferred (some [])) → Q .normal { a with defers := { target := .collected D, args := #[] } :: a.defers } W)
    (hstop : ∀ (D : Nat) (W : World), w.heap.size ≤ D → Ix W → W.heap[D]? = some (.deferred (some [])) → Code.ret.wpIn Fence.wide n P Q { a with defers := { target := .collected D, args := #[] } :: a.defers } W) :
    (Code.rangeFunc g ps assign body).wpIn Fence.wide n P Q a w := by
  refine wpIn_rangeFunc fun fn hfn => ?_
  obtain ⟨L, hL⟩ : ∃ L : LoopState → Option Code → Obj, L = fun st pe => .loop { state := st, pending := pe, fn, tmps := a.tmps, params := ps, assign, body, defers := w.heap.size } := ⟨_, rfl⟩
  have hLc : ∀ st pe, (L st pe).isCells = false := fun st pe => by rw [hL]; rfl
  obtain ⟨W1, hW1⟩ : ∃ W1, W1 = (w.alloc (.deferred (some []))).alloc (L .ready none) := ⟨_, rfl⟩
  have s1 : W1.heap.size = w.heap.size + 2 := by rw [hW1]; simp
  have g1 : W1.heap[w.heap.size + 1]? = some (L .ready none) := by rw [hW1]; have := World.alloc_heap_new (w.alloc (.deferred (some []))) (L .ready none); rwa [World.size_alloc] at this
  have g2 : W1.heap[w.heap.size]? = some (.deferred (some [])) := by rw [hW1]; exact (Below.heap_alloc _ _ _ (by simp)).trans (World.alloc_heap_new w _)
  have nn : ∀ {A B : World} {row : Option Nat}, row = none → (∀ r, row = some r → bs r ∨ (w.heap.size ≤ r ∧ ∃ o : Obj, A.heap[r]? = some o ∧ o.isCells = false)) := fun h r e => by rw [h] at e; cases e
  have i1 : I [] W1 := by
    rw [hW1]
    exact hI _ _ _ none (hI _ _ _ none h0 (World.grownBy_alloc w _ none) (nn (B := w) rfl)) (World.grownBy_alloc _ _ none) (nn (B := w) rfl)
  have lowb : ∀ b, b < w.heap.size → W1.heap[b]? = w.heap[b]? := fun b hb => by
    rw [hW1]; exact (Below.heap_alloc _ _ b (by simp; omega)).trans (Below.heap_alloc _ _ b hb)
  refine ⟨w.heap.size + 1, [{ target := .collected w.heap.size, args := #[] }], W1, { target := .fn (.func gf) lb, args := #[.func (.yield (w.heap.size + 1)) #[] #[]] }, W1, gf, #[.func (.yield (w.heap.size + 1)) #[] #[]] ++ lb, W1, ?_, ?_, fun f' _ => trivial, ?_, fun _ => h1, ?_⟩
  · have := run_enterLoop_outer (P := P) (w := w) fn a.tmps ps assign body
    rw [hW1, hL]; exact this
  · simp only [resolve, hg]; simp [go_sem]
  · simp [invoke, go_sem, eg]
  have put : ∀ {W : World} {st : LoopState} {pe : Option Code} {st' : LoopState} {pe' : Option Code}, W.heap[w.heap.size + 1]? = some (L st pe) → ∀ r, some (w.heap.size + 1) = some r → w.heap.size ≤ r ∧ ∃ o : Obj, W.heap[r]? = some o ∧ o.isCells = false := fun hl r e => by
    injection e with e; subst e; exact ⟨Nat.le_succ _, _, hl, hLc _ _⟩
  refine (hseq (w.heap.size + 1) (fun pre W => I pre W ∧ W.heap[w.heap.size + 1]? = some (L .ready none) ∧ W.heap[w.heap.size]? = some (.deferred (some []))) (fun W => Ix W ∧ W.heap[w.heap.size + 1]? = some (L .done (some .ret)) ∧ W.heap[w.heap.size]? = some (.deferred (some []))) W1 (by omega)
    (fun b hb => lowb b (hbs b hb))
    (fun s A B row hs hg' hr => ⟨hI s A B row hs.1 hg' fun r e => .inl (hr r e),
      (hg'.block _ (Array.getElem?_eq_some_iff.1 hs.2.1).1 fun e => by have := hbs _ (hr _ e.symm); omega).trans hs.2.1,
      (hg'.block _ (Array.getElem?_eq_some_iff.1 hs.2.2).1 fun e => by have := hbs _ (hr _ e.symm); omega).trans hs.2.2⟩)
    ?_ ⟨i1, g1, g2⟩).mono ?_
  · rintro pre x post W hpost ⟨hi, hl, hk⟩
    have hlw : w.heap.size + 1 < W.heap.size := (Array.getElem?_eq_some_iff.1 hl).1
    have hl' : W.heap[w.heap.size + 1]? = some (.loop { state := .ready, pending := none, fn, tmps := a.tmps, params := ps, assign, body, defers := w.heap.size }) := by rw [hl, hL]
    have hy := run_yield (P := P) (args := encs x) hl' (hps x)
    refine ⟨fn, _, assign, body, hy, roundIn_of_wpIn hfn (hassign _ x W _ ?_)⟩
    have hb := run_beginRound (P := P) hl' rfl
    obtain ⟨W3, hW3⟩ : ∃ W3, W3 = W.putObj (w.heap.size + 1) (L .busy none) := ⟨_, rfl⟩
    have hl3 : W3.heap[w.heap.size + 1]? = some (L .busy none) := by rw [hW3]; exact World.putObj_heap_same hlw
    have hk3 : W3.heap[w.heap.size]? = some (.deferred (some [])) := by rw [hW3]; exact (World.putObj_heap_other (by omega)).trans hk
    have hi3 : I pre W3 := by rw [hW3]; exact hI _ _ _ _ hi (grownBy_putObj' W _ _) fun r e => .inr (put (st' := .ready) (pe' := none) hl r e)
    have low3 : ∀ b, bs b → W3.heap[b]? = W.heap[b]? := fun b hb => by rw [hW3]; exact World.putObj_heap_other (by have := hbs b hb; omega)
    refine ⟨W3, by rw [hW3, hL]; exact hb, wpIn_mono (hbody _ pre x post W3 hpost hi3) ?_⟩
    have s3 : W3.heap.size = W.heap.size := by rw [hW3]; simp
    rintro e a₂ W4 hp
    cases e with
    | normal =>
      obtain ⟨q1, q2, q3⟩ := hp
      have hl4 := q1.same _ _ hl3 (hLc _ _)
      have hk4 := q1.same _ _ hk3 rfl
      have hl4' : W4.heap[w.heap.size + 1]? = some (.loop { state := .busy, pending := none, fn, tmps := a.tmps, params := ps, assign, body, defers := w.heap.size }) := by rw [hl4, hL]
      have he := run_endRound (P := P) none hl4'
      refine ⟨_, _, he, .inl ⟨rfl, ⟨hI _ _ _ _ q3 (grownBy_putObj' W4 _ _) fun r e => .inr (put (st' := .ready) (pe' := none) hl4 r e), ?_, (World.putObj_heap_other (by omega)).trans hk4⟩, ?_, ?_⟩⟩
      · rw [World.putObj_heap_same (Array.getElem?_eq_some_iff.1 hl4).1, hL]; rfl
      · have := q1.size
        simp; omega
      · exact fun b hb => (World.putObj_heap_other (by have := hbs b hb; omega)).trans ((q2 b hb).trans (low3 b hb))
    | ret =>
      obtain ⟨q1, q3⟩ := hp
      have hl4 := q1.same _ _ hl3 (hLc _ _)
      have hk4 := q1.same _ _ hk3 rfl
      have hl4' : W4.heap[w.heap.size + 1]? = some (.loop { state := .busy, pending := none, fn, tmps := a.tmps, params := ps, assign, body, defers := w.heap.size }) := by rw [hl4, hL]
      have he := run_endRound (P := P) (some .ret) hl4'
      refine ⟨_, _, he, .inr ⟨rfl, hIx _ _ _ q3 (grownBy_putObj' W4 _ _) (put (st' := .ready) (pe' := none) hl4), ?_, (World.putObj_heap_other (by omega)).trans hk4⟩⟩
      rw [World.putObj_heap_same (Array.getElem?_eq_some_iff.1 hl4).1, hL]; rfl
    | exit id => exact hp.elim
    | goto t => exact hp.elim
    | panic ch => exact hp.elim
    | outgrown => exact hp.elim
  · rintro e W2 ⟨⟨v, rfl⟩, ⟨hi, hl, hk⟩ | ⟨hi, hl, hk⟩⟩
    · have hl' : W2.heap[w.heap.size + 1]? = some (.loop { state := .ready, pending := none, fn, tmps := a.tmps, params := ps, assign, body, defers := w.heap.size }) := by rw [hl, hL]
      exact ⟨none, _, run_endLoop (P := P) hl' (by simp), hdone _ _ (Nat.le_refl _) (hI _ _ _ _ hi (grownBy_putObj' W2 _ _) fun r e => .inr (put (st' := .ready) (pe' := none) hl r e)) ((World.putObj_heap_other (by omega)).trans hk)⟩
    · have hl' : W2.heap[w.heap.size + 1]? = some (.loop { state := .done, pending := some .ret, fn, tmps := a.tmps, params := ps, assign, body, defers := w.heap.size }) := by rw [hl, hL]
      exact ⟨some .ret, _, run_endLoop (P := P) hl' (by simp), hstop _ _ (Nat.le_refl _) (hIx _ _ _ hi (grownBy_putObj' W2 _ _) (put (st' := .ready) (pe' := none) hl)) ((World.putObj_heap_other (by omega)).trans hk)⟩
end Go.Proofs.YtgdpogdgpfjnoaaDoor

namespace Go.Proofs.YtgdpogdgpfjnoaaDoor
open Go Go.RowKit Go.Sort Sx
open Go.Lib hiding intOf
theorem lns_none : ∀ {s : Str}, (10 : UInt8) ∉ s → s ≠ [] → lns s = [s]
  | [], _, h => absurd rfl h
  | b :: s, h, _ => by
    have hb : ¬ b = 10 := fun e => h (by rw [e]; exact List.mem_cons_self ..)
    rw [lns, if_neg hb]
    cases s with
    | nil => rfl
    | cons c r => rw [lns_none (s := c :: r) (fun k => h (List.mem_cons_of_mem _ k)) (by simp)]
theorem lns_some {s : Str} {i : Nat} (h : s[i]? = some 10) (hk : ∀ k, k < i → s[k]? ≠ some 10) : lns s = s.take (i + 1) :: lns (s.drop (i + 1)) := by
  obtain ⟨hi, he⟩ := List.getElem?_eq_some_iff.1 h
  have e : s = s.take i ++ 10 :: s.drop (i + 1) := by
    conv => lhs; rw [← List.take_append_drop i s, List.drop_eq_getElem_cons hi, he]
  have hno : (10 : UInt8) ∉ s.take i := fun k => by
    obtain ⟨j, hj, hj2⟩ := List.mem_iff_getElem.1 k
    have hj' : j < i := by rw [List.length_take] at hj; omega
    refine hk j hj' ?_
    rw [List.getElem_take] at hj2
    rw [List.getElem?_eq_getElem (by omega), hj2]
  have e2 : s.take (i + 1) = s.take i ++ [10] := by rw [List.take_succ_eq_append_getElem hi, he]
  conv => lhs; rw [e]
  rw [lns_at _ hno, e2]
def ln1 (s : Str) : Str × Str := if 0 ≤ Lib.indexByte s 10 then (s.take ((Lib.indexByte s 10).toNat + 1), s.drop ((Lib.indexByte s 10).toNat + 1)) else (s, [])
theorem lns_ln1 {s : Str} (h : s ≠ []) : lns s = (ln1 s).1 :: lns (ln1 s).2 := by
  unfold ln1
  split
  · rename_i h0
    obtain ⟨h1, h2⟩ := Lib.indexByte_some (l := s) (c := 10) (o := (Lib.indexByte s 10).toNat) (by omega)
    exact lns_some h1 h2
  · rename_i h0
    have hg := Lib.indexByte_ge s 10
    have hn := Lib.indexByte_none (l := s) (c := 10) (by omega)
    refine lns_none (fun k => ?_) h
    obtain ⟨j, hj, hj2⟩ := List.mem_iff_getElem.1 k
    exact hn j (by rw [List.getElem?_eq_getElem hj, hj2])
theorem ln1_lt {s : Str} (h : s ≠ []) : (ln1 s).2.length < s.length := by
  have hp : 0 < s.length := List.length_pos_iff.2 h
  unfold ln1
  split
  · simp only [List.length_drop]; omega
  · exact hp
theorem ln1_le (s : Str) : (ln1 s).1.length ≤ s.length := by
  unfold ln1
  split
  · simp only [List.length_take]; omega
  · exact Nat.le_refl _
theorem lns_each : ∀ {s x : Str}, x ∈ lns s → x.length ≤ s.length := by
  intro s
  induction hn : s.length using Nat.strongRecOn generalizing s with
  | _ n ih =>
    intro x hx
    by_cases h : s = []
    · subst h; cases hx
    · rw [lns_ln1 h] at hx
      rcases List.mem_cons.1 hx with rfl | hx
      · rw [← hn]; exact ln1_le s
      · have h1 := ln1_lt h
        have := ih (ln1 s).2.length (by omega) (s := (ln1 s).2) rfl hx
        omega
theorem lns_len : ∀ {s : Str}, (lns s).length ≤ s.length := by
  intro s
  induction hn : s.length using Nat.strongRecOn generalizing s with
  | _ n ih =>
    by_cases h : s = []
    · subst h; exact Nat.zero_le _
    · rw [lns_ln1 h, List.length_cons]
      have h1 := ln1_lt h
      have := ih (ln1 s).2.length (by omega) (s := (ln1 s).2) rfl
      omega
def pstep (m : Md) (x : Str) : Option Md :=
  if (spl 32 (trimN x)).headD [] = wNow ∧ (spl 32 (trimN x)).length = 2 then (if (readV ((spl 32 (trimN x)).getD 1 [])).2 = 0 then some ⟨(readV ((spl 32 (trimN x)).getD 1 [])).1.1, (readV ((spl 32 (trimN x)).getD 1 [])).1.2, m.l⟩ else none)
  else match rdPt wholeV (spl 32 (trimN x)).tail with | some p => some ⟨m.n, m.d, m.l ++ [p]⟩ | none => none
theorem prsL_cons (m : Md) (x : Str) (r : List Str) : prsL m (x :: r) = (pstep m x).bind fun m => prsL m r := by
  rw [prsL]
  unfold pstep
  split
  · split <;> rfl
  · cases rdPt wholeV (spl 32 (trimN x)).tail <;> rfl
theorem prsL_app : ∀ (a b : List Str) (m : Md), prsL m (a ++ b) = (prsL m a).bind fun m => prsL m b
  | [], b, m => by rw [List.nil_append, prsL]; rfl
  | x :: a, b, m => by
    rw [List.cons_append, prsL_cons, prsL_cons]
    cases pstep m x with
    | none => rfl
    | some m' => exact prsL_app a b m'
theorem prsL_one (a : List Str) (x : Str) (m m' : Md) (h : prsL m a = some m') : prsL m (a ++ [x]) = pstep m' x := by
  rw [prsL_app, h]
  show prsL m' [x] = _
  rw [prsL_cons]
  cases pstep m' x with
  | none => rfl
  | some m2 => show prsL m2 [] = some m2; rw [prsL]
theorem prsL_stop (a : List Str) (x : Str) (r : List Str) (m m' : Md) (h : prsL m a = some m') (h2 : pstep m' x = none) : prsL m (a ++ x :: r) = none := by
  rw [prsL_app, h]
  show prsL m' (x :: r) = _
  rw [prsL_cons, h2]; rfl
end Go.Proofs.YtgdpogdgpfjnoaaDoor

namespace Go.Proofs.YtgdpogdgpfjnoaaDoor
open Go Go.RowKit Go.Sort Sx
open Go.Lib hiding intOf
def strAt (b : Nat) (W : World) : Nat := match W.cell? ⟨b, 0, none⟩ with
  | some (.string z) => z.size
  | _ => 0
theorem strAt_of {b : Nat} {W : World} {r : Str} (h : W.cell? ⟨b, 0, none⟩ = some (bstr r)) : strAt b W = r.length := by unfold strAt; rw [h]; rfl
theorem grownBy_drew (W : World) : W.grownBy W.drew none := ⟨rfl, rfl, rfl, Nat.le_refl _, fun _ _ _ => rfl⟩
theorem ln1_yes {r : Str} (h : 0 ≤ Lib.indexByte r 10) : ln1 r = (r.take ((Lib.indexByte r 10).toNat + 1), r.drop ((Lib.indexByte r 10).toNat + 1)) := if_pos h
theorem ln1_no {r : Str} (h : ¬ 0 ≤ Lib.indexByte r 10) : ln1 r = (r, []) := if_neg h
set_option maxRecDepth 100000 in
set_option maxHeartbeats 4000000 in
theorem lines_ends (s : Str) (b n : Nat) (w : World) (hb : Boxed w b 9 (bstr s)) (hs : s.length ≤ 1000000) (hn : 1 ≤ n) :
    SeqEnds n Tryd.prog 62 #[.pointer (some ⟨b, 0, none⟩)] (fun x : Str => #[bstr x]) (fun k => k = b) (lns s) w := fun lp J Jx W hsz hbs hJ hY h0 => by
  have hbW : Boxed W b 9 (bstr s) := (hbs b rfl).trans hb
  have c0 := hbW.cell
  have hf1 : Fence.wide.fn 63 := trivial
  refine callsIn_of_wp Tryd.func62 rfl trivial ?_ rfl
  simp only [Tryd.ntmps62, List.size_toArray, List.length_cons, List.length_nil, Nat.reduceAdd, Nat.reduceSub, Array.replicate_succ, Array.replicate_zero, List.push_toArray, List.append_toArray, List.nil_append, List.cons_append]
  gi_wp2
  gi_loopw [3] (fun x W' => ∃ pre r, pre ++ lns r = lns s ∧ r.length ≤ s.length ∧ J pre W' ∧ Boxed W' b 9 (bstr r)) (fun _ W' => strAt b W')
  case atStart => exact ⟨[], s, rfl, Nat.le_refl _, h0, hbW⟩
  case round =>
    obtain ⟨pre, r, hpr, hrl, hJp, hbx⟩ := hrel
    have c1 := hbx.cell
    have fz := hbx.frozen
    by_cases hr : r = []
    · subst hr
      gi_wp2
      go_end0
      exact ⟨⟨_, rfl⟩, .inl (by rw [← hpr]; simpa [lns] using hJp)⟩
    · have hp : 0 < r.length := List.length_pos_iff.2 hr
      have hlen : (r.length : Int) > 0 := by omega
      have hq := lns_ln1 hr
      have hIdx := fun W' => callsIn_wide (n := n - 1).2 (Tryd.strings_IndexByte ⟨r.toArray⟩ 10 W')
      obtain ⟨x, hx⟩ : ∃ x, x = Lib.indexByte r 10 := ⟨_, rfl⟩
      have hIdx' : ∀ W', CallsIn Fence.wide (n - 1) Tryd.prog 63 #[bstr r, .int .u8 10] W' fun e w' => e = .returned (.int .i64 x) ∧ w' = W' := by rw [hx]; exact hIdx
      clear hIdx
      by_cases hi : 0 ≤ x
      · rw [ln1_yes (by omega)] at hq
        obtain ⟨hi1, hi2⟩ := Lib.indexByte_some (l := r) (c := 10) (o := x.toNat) (by omega)
        have hlt := (List.getElem?_eq_some_iff.1 hi1).1
        have hm : decide (x ≥ 0) = true := decide_eq_true hi
        rw [← hx] at hq
        clear hx
        have hw1 : IntKind.i64.wrap (x + 1) = x + 1 := by rw [IntKind.wrap_i64]; omega
        have hx1 : (0 : Int) ≤ x + 1 := by omega
        have hx2 : (x + 1).toNat = x.toNat + 1 := by omega
        have hx3 : x + 1 ≤ (r.length : Int) := by omega
        have hx4 : x.toNat + 1 ≤ r.length := by omega
        gi_wp2_with (gi_at_call 63; (with_reducible refine CallsIn.mono (hIdx' _) ?_); rintro e W1 ⟨rfl, rfl⟩)
        gi_region
        have e1 : (⟨r.toArray⟩ : ByteArray).extract 0 (x.toNat + 1) = ⟨(r.take (x.toNat + 1)).toArray⟩ := by rw [str_extract, List.drop_zero]
        have e2 : (⟨r.toArray⟩ : ByteArray).extract (x.toNat + 1) r.length = ⟨(r.drop (x.toNat + 1)).toArray⟩ := by rw [str_extract, List.take_length]
        rw [e1, e2]
        obtain ⟨l, hl⟩ : ∃ l, l = r.take (x.toNat + 1) := ⟨_, rfl⟩
        obtain ⟨q, hq2⟩ : ∃ q, q = r.drop (x.toNat + 1) := ⟨_, rfl⟩
        have hql : q.length < r.length := by rw [hq2, List.length_drop]; omega
        rw [← hl, ← hq2] at hq ⊢
        clear e1 e2 hl hq2
        obtain ⟨W2, hW2⟩ : ∃ W2, W2 = (W1.setCell ⟨b, 0, none⟩ (bstr q)).drew := ⟨_, rfl⟩
        have hJ2 : J pre W2 := by rw [hW2]; exact hJ _ _ _ none (hJ _ _ _ _ hJp (grownBy_setCell' W1 b (bstr q)) (fun r e => by injection e with e; exact e.symm)) (grownBy_drew _) (fun r e => by cases e)
        have hb2 : Boxed W2 b 9 (bstr q) := by rw [hW2]; exact hbx.set _
        have c2 := hb2.cell
        obtain ⟨fn, tmps, assign, body, hy, hR⟩ := hY pre l (lns q) _ (by rw [← hpr, hq]) hJ2
        rw [← hW2]
        clear hW2
        gi_wp2
        refine hR.mono ?_
        rintro e W3 (⟨rfl, hJ5, hs5, hk5⟩ | ⟨rfl, hx5⟩)
        · gi_wp2
          go_roundw
          case rel => exact ⟨pre ++ [l], q, by rw [← hpr, hq]; simp, by omega, hJ5, (hk5 b rfl).trans hb2⟩
          case measure => rw [strAt_of c1, strAt_of (Boxed.cell (t := 9) ((hk5 b rfl).trans hb2))]; exact hql
        · gi_wp2
          refine bodyPost_ret (results_none rfl _ _ _) rfl ?_
          exact ⟨⟨_, rfl⟩, .inr hx5⟩
      · rw [ln1_no (by omega)] at hq
        have hn : decide (x ≥ 0) = false := decide_eq_false hi
        clear hx
        gi_wp2_with (gi_at_call 63; (with_reducible refine CallsIn.mono (hIdx' _) ?_); rintro e W1 ⟨rfl, rfl⟩; have hJ2 := hJ _ _ _ _ hJp (grownBy_setCell' W1 b (.string ⟨#[]⟩)) (fun r e => by injection e with e; exact e.symm); have hb2 : Boxed (W1.setCell ⟨b, 0, none⟩ (.string ⟨#[]⟩)) b 9 (bstr []) := hbx.set _; obtain ⟨fn, tmps, assign, body, hy, hR⟩ := hY pre r (lns []) _ (by rw [← hpr, hq]) hJ2)
        refine hR.mono ?_
        rintro e W3 (⟨rfl, hJ5, hs5, hk5⟩ | ⟨rfl, hx5⟩)
        · gi_wp2
          go_roundw
          case rel => exact ⟨pre ++ [r], [], by rw [← hpr, hq]; simp, Nat.zero_le _, hJ5, (hk5 b rfl).trans hb2⟩
          case measure => rw [strAt_of c1, strAt_of (Boxed.cell (t := 9) ((hk5 b rfl).trans hb2))]; exact hp
        · gi_wp2
          refine bodyPost_ret (results_none rfl _ _ _) rfl ?_
          exact ⟨⟨_, rfl⟩, .inr hx5⟩
end Go.Proofs.YtgdpogdgpfjnoaaDoor
