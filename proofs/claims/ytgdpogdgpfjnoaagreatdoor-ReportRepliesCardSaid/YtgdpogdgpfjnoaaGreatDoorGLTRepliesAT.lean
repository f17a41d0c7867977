import Derived.Test.YtgdpogdgpfjnoaaGreatDoorGLTRepliesAS
import Derived.Test.YtgdpogdgpfjnoaaGreatDoorGLTRepliesAR
set_option linter.all false
namespace Go.Proofs.YtgdpogdgpfjnoaaGreatDoor
open Go Go.RowKit Go.Sort Sx
open Go.Lib hiding intOf
abbrev retSm (x : Int × Bool) : DV := .tup [.one (i64 x.1), .one (bol x.2)]
abbrev retMt (x : Mt × Bool) : DV := .tup [x.1.dc, .one (bol x.2)]
abbrev retRb (x : Rp) (b : Bool) : DV := .tup [x.dc, .one (bol b)]
abbrev retRp (x : Rp × Int) : DV := .tup [x.1.dc, .one (i64 x.2)]
theorem rtsmall_fn (s : Str) (hi : Int) (hs : s.length ≤ 1000000) : FnOK Tryz.prog 115 [.one (str s), .one (i64 hi)] (retSm (smV s hi)) := by
  have H := rcWhole_fn s hs
  unfold smV
  generalize wholeR s = p at *
  obtain ⟨n, b⟩ := p
  simp only [retWr] at H ⊢
  refine fn_ok (by kernel_rfl) ty_ok Tryz.func115 rfl (fun _ _ => Tryz.call115 _ _) rfl ?_
  intro hw
  clear hw
  cases b
  · repeat' ((conv => whnf); first | (with_reducible first | refine br_t ?_ | refine br_f ?_ | refine za ?_ | refine zg ?_) | refine zsl ?_ | refine zsg ?_ | refine zss ?_ | refine zs1 ?_ | refine zse ?_ | refine zsn ?_ | refine zsc ?_ | (with_reducible first | refine zpa ?_ | refine zqa ?_) | refine zp ?_ | refine zq ?_ | (with_reducible first | refine bc (fun h => ?_) (fun h => ?_) | refine zt ?_ | refine zf ?_ | refine br_i (fun h => ?_) (fun h => ?_)) | refine zg ?_ | refine zi ?_ | refine zb ?_)
    all_goals conv => whnf
    all_goals rfl
  · by_cases h0 : 0 ≤ n
    · rw [decide_eq_true h0]
      repeat' ((conv => whnf); first | (with_reducible first | refine br_t ?_ | refine br_f ?_ | refine za ?_ | refine zg ?_) | refine zsl ?_ | refine zsg ?_ | refine zss ?_ | refine zs1 ?_ | refine zse ?_ | refine zsn ?_ | refine zsc ?_ | (with_reducible first | refine zpa ?_ | refine zqa ?_) | refine zp ?_ | refine zq ?_ | (with_reducible first | refine bc (fun h => ?_) (fun h => ?_) | refine zt ?_ | refine zf ?_ | refine br_i (fun h => ?_) (fun h => ?_)) | refine zg ?_ | refine zi ?_ | refine zb ?_)
      all_goals conv => whnf
      all_goals rfl
    · rw [decide_eq_false h0]
      repeat' ((conv => whnf); first | (with_reducible first | refine br_t ?_ | refine br_f ?_ | refine za ?_ | refine zg ?_) | refine zsl ?_ | refine zsg ?_ | refine zss ?_ | refine zs1 ?_ | refine zse ?_ | refine zsn ?_ | refine zsc ?_ | (with_reducible first | refine zpa ?_ | refine zqa ?_) | refine zp ?_ | refine zq ?_ | (with_reducible first | refine bc (fun h => ?_) (fun h => ?_) | refine zt ?_ | refine zf ?_ | refine br_i (fun h => ?_) (fun h => ?_)) | refine zg ?_ | refine zi ?_ | refine zb ?_)
      all_goals conv => whnf
      all_goals rfl
theorem rtmet_fn (a b c : Str) (ha : a.length ≤ 100000) (hb : b.length ≤ 100000) (hc : c.length ≤ 100000) : FnOK Tryz.prog 116 [.one (strs [a, b, c])] (retMt (metV a b c)) := by
  have Ha := rcReadNumber_fn a ha
  have Hb := rtsmall_fn b 65535 (by omega)
  have Hc := rtsmall_fn c 65535 (by omega)
  have g0 : (List.map (fun s => [str s]) [a, b, c])[(0 : Int).toNat]? = some [str a] := rfl
  have g1 : (List.map (fun s => [str s]) [a, b, c])[(1 : Int).toNat]? = some [str b] := rfl
  have g2 : (List.map (fun s => [str s]) [a, b, c])[(2 : Int).toNat]? = some [str c] := rfl
  unfold metV
  generalize smV b 65535 = p at *
  generalize smV c 65535 = q at *
  generalize readR a = r at *
  obtain ⟨⟨n, d⟩, e⟩ := r
  obtain ⟨pi, pb⟩ := p
  obtain ⟨qi, qb⟩ := q
  simp only at Ha Hb Hc ⊢
  simp only [retMt, Mt.dc, retSm, retR3] at Ha Hb Hc ⊢
  refine fn_ok (by kernel_rfl) ty_ok Tryz.func116 rfl (fun _ _ => Tryz.call116 _ _) rfl ?_
  intro hw
  clear hw
  by_cases h : e = 0
  · rw [decide_eq_true h]
    cases pb
    · repeat' ((conv => whnf); first | (with_reducible first | refine br_t ?_ | refine br_f ?_ | refine za ?_ | refine zg ?_) | refine zsl ?_ | refine zsg ?_ | refine zss ?_ | refine zs1 ?_ | refine zse ?_ | refine zsn ?_ | refine zsc ?_ | (with_reducible first | refine zpa ?_ | refine zqa ?_) | refine zp ?_ | refine zq ?_ | (with_reducible first | refine bc (fun h => ?_) (fun h => ?_) | refine zt ?_ | refine zf ?_ | refine br_i (fun h => ?_) (fun h => ?_)) | refine zg ?_ | refine zi ?_ | refine zb ?_)
      all_goals conv => whnf
      all_goals rfl
    · cases qb
      · repeat' ((conv => whnf); first | (with_reducible first | refine br_t ?_ | refine br_f ?_ | refine za ?_ | refine zg ?_) | refine zsl ?_ | refine zsg ?_ | refine zss ?_ | refine zs1 ?_ | refine zse ?_ | refine zsn ?_ | refine zsc ?_ | (with_reducible first | refine zpa ?_ | refine zqa ?_) | refine zp ?_ | refine zq ?_ | (with_reducible first | refine bc (fun h => ?_) (fun h => ?_) | refine zt ?_ | refine zf ?_ | refine br_i (fun h => ?_) (fun h => ?_)) | refine zg ?_ | refine zi ?_ | refine zb ?_)
        all_goals conv => whnf
        all_goals rfl
      · repeat' ((conv => whnf); first | (with_reducible first | refine br_t ?_ | refine br_f ?_ | refine za ?_ | refine zg ?_) | refine zsl ?_ | refine zsg ?_ | refine zss ?_ | refine zs1 ?_ | refine zse ?_ | refine zsn ?_ | refine zsc ?_ | (with_reducible first | refine zpa ?_ | refine zqa ?_) | refine zp ?_ | refine zq ?_ | (with_reducible first | refine bc (fun h => ?_) (fun h => ?_) | refine zt ?_ | refine zf ?_ | refine br_i (fun h => ?_) (fun h => ?_)) | refine zg ?_ | refine zi ?_ | refine zb ?_)
        all_goals conv => whnf
        all_goals rfl
  · rw [decide_eq_false h]
    repeat' ((conv => whnf); first | (with_reducible first | refine br_t ?_ | refine br_f ?_ | refine za ?_ | refine zg ?_) | refine zsl ?_ | refine zsg ?_ | refine zss ?_ | refine zs1 ?_ | refine zse ?_ | refine zsn ?_ | refine zsc ?_ | (with_reducible first | refine zpa ?_ | refine zqa ?_) | refine zp ?_ | refine zq ?_ | (with_reducible first | refine bc (fun h => ?_) (fun h => ?_) | refine zt ?_ | refine zf ?_ | refine br_i (fun h => ?_) (fun h => ?_)) | refine zg ?_ | refine zi ?_ | refine zb ?_)
    all_goals conv => whnf
    all_goals rfl
def rdMx : List Str → List Mt × Bool
  | [] => ([], true)
  | a :: b :: c :: r => if (metV a b c).2 = true then ((metV a b c).1 :: (rdMx r).1, (rdMx r).2) else ([(metV a b c).1], false)
  | _ => ([], false)
theorem rdMx_is : ∀ t : List Str, rdMr t = if (rdMx t).2 = true then some (rdMx t).1 else none
  | [] => rfl
  | [_] => rfl
  | [_, _] => rfl
  | a :: b :: c :: r => by
    have ih := rdMx_is r
    rw [rdMr, rdMx]
    split
    · rename_i h
      rw [ih]
      dsimp only
      split <;> rfl
    · rfl
theorem rdMx_len : ∀ t : List Str, (rdMx t).1.length ≤ t.length
  | [] => Nat.le_refl _
  | [_] => Nat.zero_le _
  | [_, _] => Nat.zero_le _
  | a :: b :: c :: r => by
    have ih := rdMx_len r
    rw [rdMx]
    split <;> simp only [List.length_cons, List.length_nil] <;> omega
theorem len2 : ∀ {l : List Str}, l.length = 2 → ∃ a b, l = [a, b]
  | [a, b], _ => ⟨a, b, rfl⟩
  | [], h => by cases h
  | [_], h => by cases h
  | _ :: _ :: _ :: _, h => by simp at h
theorem len3 : ∀ {l : List Str}, l.length = 3 → ∃ a b c, l = [a, b, c]
  | [a, b, c], _ => ⟨a, b, c, rfl⟩
  | [], h => by cases h
  | [_], h => by cases h
  | [_, _], h => by cases h
  | _ :: _ :: _ :: _ :: _, h => by simp at h
set_option maxRecDepth 100000 in
set_option maxHeartbeats 4000000 in
theorem rtread_fn (w0 : Str) (t : List Str) (hl : t.length ≤ 100000) (hs : ∀ x ∈ t, x.length ≤ 100000) : ∃ X b, X.ms.length ≤ 1000000 ∧ (rdWR w0 t = if b = true then some X else none) ∧ FnOK Tryz.prog 63 [.one (strs (w0 :: t))] (retRb X b) := by
  have g0 : ((w0 :: t).map fun s => [str s])[(0 : Int).toNat]? = some [str w0] := rfl
  have gl : ((w0 :: t).map fun s => [str s]).length = t.length + 1 := by simp
  have none_of : (¬ (w0 = wDone ∧ t.length = 0)) → (¬ (w0 = wErr ∧ t.length = 1)) → (¬ (w0 = wLeader ∧ t.length = 2)) → (¬ (w0 = wPair ∧ t.length = 3)) → (¬ (w0 = wMeet ∧ (t.length + 1) % 3 = 1)) → rdWR w0 t = none := fun h1 h2 h3 h4 h5 => by unfold rdWR; rw [if_neg h1, if_neg h2, if_neg h3, if_neg h4, if_neg h5]
  by_cases k1 : w0 = [100, 111, 110, 101]
  · subst k1
    by_cases h : t.length = 0
    · refine ⟨rp0, true, Nat.zero_le _, ?_, ?_⟩
      · unfold rdWR; rw [if_pos ⟨rfl, h⟩]; rfl
      simp only [retRb, Rp.dc, rp0, mts, List.map_nil]
      refine fn_ok (by kernel_rfl) (ty_okK [158] [] [] []) Tryz.func63 rfl (fun _ _ => Tryz.call63 _ _) rfl ?_
      intro hw
      clear hw none_of
      repeat' ((conv => whnf); first | (with_reducible first | refine br_t ?_ | refine br_f ?_ | refine za ?_ | refine zg ?_ | refine zo ?_) | refine zsl ?_ | refine zsg ?_ | refine zss ?_ | refine zs1 ?_ | refine zse ?_ | refine zsn ?_ | refine zsc ?_ | (with_reducible first | refine zpa ?_ | refine zqa ?_) | refine zp ?_ | refine zq ?_ | (with_reducible first | refine bc (fun h => ?_) (fun h => ?_) | refine zt ?_ | refine zf ?_ | refine br_i (fun h => ?_) (fun h => ?_)) | refine zg ?_ | refine zi ?_ | refine zb ?_ | refine zl ?_)
      all_goals conv => whnf
      all_goals rfl
    · refine ⟨rp0, false, Nat.zero_le _, ?_, ?_⟩
      · exact none_of (fun c => h c.2) (fun c => absurd c.1 (by decide)) (fun c => absurd c.1 (by decide)) (fun c => absurd c.1 (by decide)) (fun c => absurd c.1 (by decide))
      simp only [retRb, Rp.dc, rp0, mts, List.map_nil]
      refine fn_ok (by kernel_rfl) (ty_okK [158] [] [] []) Tryz.func63 rfl (fun _ _ => Tryz.call63 _ _) rfl ?_
      intro hw
      clear hw none_of
      repeat' ((conv => whnf); first | (with_reducible first | refine br_t ?_ | refine br_f ?_ | refine za ?_ | refine zg ?_ | refine zo ?_) | refine zsl ?_ | refine zsg ?_ | refine zss ?_ | refine zs1 ?_ | refine zse ?_ | refine zsn ?_ | refine zsc ?_ | (with_reducible first | refine zpa ?_ | refine zqa ?_) | refine zp ?_ | refine zq ?_ | (with_reducible first | refine bc (fun h => ?_) (fun h => ?_) | refine zt ?_ | refine zf ?_ | refine br_i (fun h => ?_) (fun h => ?_)) | refine zg ?_ | refine zi ?_ | refine zb ?_ | refine zl ?_)
      all_goals conv => whnf
      all_goals rfl
  by_cases k2 : w0 = [101, 114, 114, 111, 114]
  · subst k2
    by_cases h : t.length = 1
    · obtain ⟨a, rfl⟩ := List.length_eq_one_iff.1 h
      have g1 : (([101, 114, 114, 111, 114] :: [a] : List Str).map fun s => [str s])[(1 : Int).toNat]? = some [str a] := rfl
      have Ha := rtsmall_fn a 99 (Nat.le_trans (hs a (by simp)) (by omega))
      refine ⟨rpE (smV a 99).1, (smV a 99).2, Nat.zero_le _, ?_, ?_⟩
      · unfold rdWR; rw [if_neg (fun c => absurd c.1 (by decide)), if_pos ⟨rfl, rfl⟩]; rfl
      generalize smV a 99 = p at *
      obtain ⟨pn, pb⟩ := p
      simp only [retSm, retRb, Rp.dc, rpE, mts, List.map_nil] at Ha ⊢
      refine fn_ok (by kernel_rfl) (ty_okK [158] [] [] []) Tryz.func63 rfl (fun _ _ => Tryz.call63 _ _) rfl ?_
      intro hw
      clear hw none_of
      repeat' ((conv => whnf); first | (with_reducible first | refine br_t ?_ | refine br_f ?_ | refine za ?_ | refine zg ?_ | refine zo ?_) | refine zsl ?_ | refine zsg ?_ | refine zss ?_ | refine zs1 ?_ | refine zse ?_ | refine zsn ?_ | refine zsc ?_ | (with_reducible first | refine zpa ?_ | refine zqa ?_) | refine zp ?_ | refine zq ?_ | (with_reducible first | refine bc (fun h => ?_) (fun h => ?_) | refine zt ?_ | refine zf ?_ | refine br_i (fun h => ?_) (fun h => ?_)) | refine zg ?_ | refine zi ?_ | refine zb ?_ | refine zl ?_)
      all_goals conv => whnf
      all_goals rfl
    · refine ⟨rp0, false, Nat.zero_le _, ?_, ?_⟩
      · exact none_of (fun c => absurd c.1 (by decide)) (fun c => h c.2) (fun c => absurd c.1 (by decide)) (fun c => absurd c.1 (by decide)) (fun c => absurd c.1 (by decide))
      simp only [retRb, Rp.dc, rp0, mts, List.map_nil]
      refine fn_ok (by kernel_rfl) (ty_okK [158] [] [] []) Tryz.func63 rfl (fun _ _ => Tryz.call63 _ _) rfl ?_
      intro hw
      clear hw none_of
      repeat' ((conv => whnf); first | (with_reducible first | refine br_t ?_ | refine br_f ?_ | refine za ?_ | refine zg ?_ | refine zo ?_) | refine zsl ?_ | refine zsg ?_ | refine zss ?_ | refine zs1 ?_ | refine zse ?_ | refine zsn ?_ | refine zsc ?_ | (with_reducible first | refine zpa ?_ | refine zqa ?_) | refine zp ?_ | refine zq ?_ | (with_reducible first | refine bc (fun h => ?_) (fun h => ?_) | refine zt ?_ | refine zf ?_ | refine br_i (fun h => ?_) (fun h => ?_)) | refine zg ?_ | refine zi ?_ | refine zb ?_ | refine zl ?_)
      all_goals conv => whnf
      all_goals rfl
  by_cases k3 : w0 = [108, 101, 97, 100, 101, 114]
  · subst k3
    by_cases h : t.length = 2
    · obtain ⟨a, b, rfl⟩ := len2 h
      have g1 : (([108, 101, 97, 100, 101, 114] :: [a, b] : List Str).map fun s => [str s])[(1 : Int).toNat]? = some [str a] := rfl
      have g2 : (([108, 101, 97, 100, 101, 114] :: [a, b] : List Str).map fun s => [str s])[(2 : Int).toNat]? = some [str b] := rfl
      have Ha := rtsmall_fn a 65535 (Nat.le_trans (hs a (by simp)) (by omega))
      have Hb := rcReadNumber_fn b (hs b (by simp))
      refine ⟨⟨0, (smV a 65535).1, 0, (readR b).1.1, (readR b).1.2, []⟩, (smV a 65535).2 && decide ((readR b).2 = 0), Nat.zero_le _, ?_, ?_⟩
      · unfold rdWR
        rw [if_neg (fun c => absurd c.1 (by decide)), if_neg (fun c => absurd c.1 (by decide)), if_pos ⟨rfl, rfl⟩]
        by_cases c1 : (smV a 65535).2 = true ∧ (readR b).2 = 0
        · exact (if_pos c1).trans (if_pos (by simp [c1.1, c1.2])).symm
        · exact (if_neg c1).trans (if_neg (by simpa using c1)).symm
      generalize smV a 65535 = p at *
      generalize readR b = q at *
      obtain ⟨pn, pb⟩ := p
      obtain ⟨⟨qn, qd⟩, qe⟩ := q
      simp only [retSm, retR3, retRb, Rp.dc, mts, List.map_nil] at Ha Hb ⊢
      refine fn_ok (by kernel_rfl) (ty_okK [158] [] [] []) Tryz.func63 rfl (fun _ _ => Tryz.call63 _ _) rfl ?_
      intro hw
      clear hw none_of
      cases pb
      · repeat' ((conv => whnf); first | (with_reducible first | refine br_t ?_ | refine br_f ?_ | refine za ?_ | refine zg ?_ | refine zo ?_) | refine zsl ?_ | refine zsg ?_ | refine zss ?_ | refine zs1 ?_ | refine zse ?_ | refine zsn ?_ | refine zsc ?_ | (with_reducible first | refine zpa ?_ | refine zqa ?_) | refine zp ?_ | refine zq ?_ | (with_reducible first | refine bc (fun h => ?_) (fun h => ?_) | refine zt ?_ | refine zf ?_ | refine br_i (fun h => ?_) (fun h => ?_)) | refine zg ?_ | refine zi ?_ | refine zb ?_ | refine zl ?_)
        all_goals conv => whnf
        all_goals rfl
      · repeat' ((conv => whnf); first | (with_reducible first | refine br_t ?_ | refine br_f ?_ | refine za ?_ | refine zg ?_ | refine zo ?_) | refine zsl ?_ | refine zsg ?_ | refine zss ?_ | refine zs1 ?_ | refine zse ?_ | refine zsn ?_ | refine zsc ?_ | (with_reducible first | refine zpa ?_ | refine zqa ?_) | refine zp ?_ | refine zq ?_ | (with_reducible first | refine bc (fun h => ?_) (fun h => ?_) | refine zt ?_ | refine zf ?_ | refine br_i (fun h => ?_) (fun h => ?_)) | refine zg ?_ | refine zi ?_ | refine zb ?_ | refine zl ?_)
        all_goals conv => whnf
        all_goals rfl
    · refine ⟨rp0, false, Nat.zero_le _, ?_, ?_⟩
      · exact none_of (fun c => absurd c.1 (by decide)) (fun c => absurd c.1 (by decide)) (fun c => h c.2) (fun c => absurd c.1 (by decide)) (fun c => absurd c.1 (by decide))
      simp only [retRb, Rp.dc, rp0, mts, List.map_nil]
      refine fn_ok (by kernel_rfl) (ty_okK [158] [] [] []) Tryz.func63 rfl (fun _ _ => Tryz.call63 _ _) rfl ?_
      intro hw
      clear hw none_of
      repeat' ((conv => whnf); first | (with_reducible first | refine br_t ?_ | refine br_f ?_ | refine za ?_ | refine zg ?_ | refine zo ?_) | refine zsl ?_ | refine zsg ?_ | refine zss ?_ | refine zs1 ?_ | refine zse ?_ | refine zsn ?_ | refine zsc ?_ | (with_reducible first | refine zpa ?_ | refine zqa ?_) | refine zp ?_ | refine zq ?_ | (with_reducible first | refine bc (fun h => ?_) (fun h => ?_) | refine zt ?_ | refine zf ?_ | refine br_i (fun h => ?_) (fun h => ?_)) | refine zg ?_ | refine zi ?_ | refine zb ?_ | refine zl ?_)
      all_goals conv => whnf
      all_goals rfl
  by_cases k4 : w0 = [112, 97, 105, 114]
  · subst k4
    by_cases h : t.length = 3
    · obtain ⟨a, b, c, rfl⟩ := len3 h
      have g1 : (([112, 97, 105, 114] :: [a, b, c] : List Str).map fun s => [str s])[(1 : Int).toNat]? = some [str a] := rfl
      have g2 : (([112, 97, 105, 114] :: [a, b, c] : List Str).map fun s => [str s])[(2 : Int).toNat]? = some [str b] := rfl
      have g3 : (([112, 97, 105, 114] :: [a, b, c] : List Str).map fun s => [str s])[(3 : Int).toNat]? = some [str c] := rfl
      have Ha := rtsmall_fn a 65535 (Nat.le_trans (hs a (by simp)) (by omega))
      have Hb := rtsmall_fn b 65535 (Nat.le_trans (hs b (by simp)) (by omega))
      have Hc := rcReadNumber_fn c (hs c (by simp))
      refine ⟨⟨0, (smV a 65535).1, (smV b 65535).1, (readR c).1.1, (readR c).1.2, []⟩, (smV a 65535).2 && ((smV b 65535).2 && decide ((readR c).2 = 0)), Nat.zero_le _, ?_, ?_⟩
      · unfold rdWR
        rw [if_neg (fun c => absurd c.1 (by decide)), if_neg (fun c => absurd c.1 (by decide)), if_neg (fun c => absurd c.1 (by decide)), if_pos ⟨rfl, rfl⟩]
        by_cases c1 : (smV a 65535).2 = true ∧ (smV b 65535).2 = true ∧ (readR c).2 = 0
        · exact (if_pos c1).trans (if_pos (by simp [c1.1, c1.2])).symm
        · exact (if_neg c1).trans (if_neg (by simpa using c1)).symm
      generalize smV a 65535 = p at *
      generalize smV b 65535 = r at *
      generalize readR c = q at *
      obtain ⟨pn, pb⟩ := p
      obtain ⟨rn, rb⟩ := r
      obtain ⟨⟨qn, qd⟩, qe⟩ := q
      simp only [retSm, retR3, retRb, Rp.dc, mts, List.map_nil] at Ha Hb Hc ⊢
      refine fn_ok (by kernel_rfl) (ty_okK [158] [] [] []) Tryz.func63 rfl (fun _ _ => Tryz.call63 _ _) rfl ?_
      intro hw
      clear hw none_of
      cases pb
      · repeat' ((conv => whnf); first | (with_reducible first | refine br_t ?_ | refine br_f ?_ | refine za ?_ | refine zg ?_ | refine zo ?_) | refine zsl ?_ | refine zsg ?_ | refine zss ?_ | refine zs1 ?_ | refine zse ?_ | refine zsn ?_ | refine zsc ?_ | (with_reducible first | refine zpa ?_ | refine zqa ?_) | refine zp ?_ | refine zq ?_ | (with_reducible first | refine bc (fun h => ?_) (fun h => ?_) | refine zt ?_ | refine zf ?_ | refine br_i (fun h => ?_) (fun h => ?_)) | refine zg ?_ | refine zi ?_ | refine zb ?_ | refine zl ?_)
        all_goals conv => whnf
        all_goals rfl
      · cases rb
        · repeat' ((conv => whnf); first | (with_reducible first | refine br_t ?_ | refine br_f ?_ | refine za ?_ | refine zg ?_ | refine zo ?_) | refine zsl ?_ | refine zsg ?_ | refine zss ?_ | refine zs1 ?_ | refine zse ?_ | refine zsn ?_ | refine zsc ?_ | (with_reducible first | refine zpa ?_ | refine zqa ?_) | refine zp ?_ | refine zq ?_ | (with_reducible first | refine bc (fun h => ?_) (fun h => ?_) | refine zt ?_ | refine zf ?_ | refine br_i (fun h => ?_) (fun h => ?_)) | refine zg ?_ | refine zi ?_ | refine zb ?_ | refine zl ?_)
          all_goals conv => whnf
          all_goals rfl
        · repeat' ((conv => whnf); first | (with_reducible first | refine br_t ?_ | refine br_f ?_ | refine za ?_ | refine zg ?_ | refine zo ?_) | refine zsl ?_ | refine zsg ?_ | refine zss ?_ | refine zs1 ?_ | refine zse ?_ | refine zsn ?_ | refine zsc ?_ | (with_reducible first | refine zpa ?_ | refine zqa ?_) | refine zp ?_ | refine zq ?_ | (with_reducible first | refine bc (fun h => ?_) (fun h => ?_) | refine zt ?_ | refine zf ?_ | refine br_i (fun h => ?_) (fun h => ?_)) | refine zg ?_ | refine zi ?_ | refine zb ?_ | refine zl ?_)
          all_goals conv => whnf
          all_goals rfl
    · refine ⟨rp0, false, Nat.zero_le _, ?_, ?_⟩
      · exact none_of (fun c => absurd c.1 (by decide)) (fun c => absurd c.1 (by decide)) (fun c => absurd c.1 (by decide)) (fun c => h c.2) (fun c => absurd c.1 (by decide))
      simp only [retRb, Rp.dc, rp0, mts, List.map_nil]
      refine fn_ok (by kernel_rfl) (ty_okK [158] [] [] []) Tryz.func63 rfl (fun _ _ => Tryz.call63 _ _) rfl ?_
      intro hw
      clear hw none_of
      repeat' ((conv => whnf); first | (with_reducible first | refine br_t ?_ | refine br_f ?_ | refine za ?_ | refine zg ?_ | refine zo ?_) | refine zsl ?_ | refine zsg ?_ | refine zss ?_ | refine zs1 ?_ | refine zse ?_ | refine zsn ?_ | refine zsc ?_ | (with_reducible first | refine zpa ?_ | refine zqa ?_) | refine zp ?_ | refine zq ?_ | (with_reducible first | refine bc (fun h => ?_) (fun h => ?_) | refine zt ?_ | refine zf ?_ | refine br_i (fun h => ?_) (fun h => ?_)) | refine zg ?_ | refine zi ?_ | refine zb ?_ | refine zl ?_)
      all_goals conv => whnf
      all_goals rfl
  by_cases k5 : w0 = [109, 101, 101, 116, 105, 110, 103, 115]
  · subst k5
    by_cases h : (t.length + 1) % 3 = 1
    · refine ⟨⟨0, 0, 0, 0, 0, (rdMx t).1⟩, (rdMx t).2, Nat.le_trans (rdMx_len t) (by omega), ?_, ?_⟩
      · unfold rdWR
        rw [if_neg (fun c => absurd c.1 (by decide)), if_neg (fun c => absurd c.1 (by decide)), if_neg (fun c => absurd c.1 (by decide)), if_neg (fun c => absurd c.1 (by decide)), if_pos ⟨rfl, h⟩, rdMx_is]
        split <;> rfl
      simp only [retRb, Rp.dc]
      refine fn_ok (by kernel_rfl) (ty_okK [158] [] [] []) Tryz.func63 rfl (fun _ _ => Tryz.call63 _ _) rfl ?_
      intro hw
      clear hw none_of
      have hrm : Int.tmod (((([109, 101, 101, 116, 105, 110, 103, 115] :: t).map fun s => [str s]).length : Nat) : Int) 3 = 1 := by rw [gl, Int.tmod_eq_emod_of_nonneg (by omega)]; omega
      repeat' ((conv => whnf); first | (with_reducible first | refine br_t ?_ | refine br_f ?_ | refine za ?_ | refine zg ?_ | refine zo ?_) | refine zsl ?_ | refine zsg ?_ | refine zss ?_ | refine zs1 ?_ | refine zse ?_ | refine zsn ?_ | refine zsc ?_ | (with_reducible first | refine zpa ?_ | refine zqa ?_) | refine zp ?_ | refine zq ?_ | (with_reducible first | refine bc (fun h => ?_) (fun h => ?_) | refine zt ?_ | refine zf ?_ | refine br_i (fun h => ?_) (fun h => ?_)) | refine zg ?_ | refine zi ?_ | refine zb ?_ | refine zl ?_)
      all_goals conv => whnf
      refine loop_nameH 4 5 100 rfl rfl rfl ?_
      refine loop_J (by kernel_rfl) (ty_okK [158] [] [] []) (σ := Nat × Bool × List Mt) (fun q => [(15, sV (.int .i64 ((1 + 3 * q.1 : Nat) : Int))), (5, sD (bol q.2.1))]) (fun q => [(4, .own [.d (i64 0), .d (i64 0), .d (i64 0), .d (i64 0), .d (i64 0), .osl 100 0]), (100, .row 4 (q.2.2.map Mt.c) 0)])
        (fun q => 3 * q.1 ≤ t.length ∧ q.2.2.length ≤ q.1 ∧ ((q.2.1 = true ∧ (rdMx t).1 = q.2.2 ++ (rdMx (t.drop (3 * q.1))).1 ∧ (rdMx t).2 = (rdMx (t.drop (3 * q.1))).2) ∨ (q.2.1 = false ∧ (rdMx t).1 = q.2.2 ∧ (rdMx t).2 = false))) (fun q => t.length + 3 - 3 * q.1) (0, true, []) ⟨Nat.zero_le _, Nat.zero_le _, .inl ⟨rfl, rfl, rfl⟩⟩ ?_ ?_
      · (conv => whnf); exact zent
      rintro ⟨k, ok, L⟩ ⟨hk, hL, hI⟩
      simp only at hk hL hI ⊢
      rcases hI with ⟨rfl, e1, e2⟩ | ⟨rfl, e1, e2⟩
      · by_cases hkt : 3 * k = t.length
        · rw [hkt, List.drop_length] at e1 e2
          rw [e1, e2]
          clear e1 e2
          simp only [rdMx, List.append_nil]
          repeat' ((conv => whnf); first | (with_reducible first | refine br_t ?_ | refine br_f ?_ | refine za ?_ | refine zg ?_ | refine zo ?_) | refine zsl ?_ | refine zsg ?_ | refine zss ?_ | refine zs1 ?_ | refine zse ?_ | refine zsn ?_ | refine zsc ?_ | (with_reducible first | refine zpa ?_ | refine zqa ?_) | refine zp ?_ | refine zq ?_ | (with_reducible first | refine bc (fun h => ?_) (fun h => ?_) | refine zt ?_ | refine zf ?_ | refine br_i (fun h => ?_) (fun h => ?_)) | refine zg ?_ | refine zi ?_ | refine zb ?_ | refine zl ?_)
          all_goals conv => whnf
          all_goals rfl
        · obtain ⟨a, b, c, hd⟩ : ∃ a b c, t.drop (3 * k) = a :: b :: c :: t.drop (3 * (k + 1)) := by
            refine ⟨t[3 * k], t[3 * k + 1], t[3 * k + 2], ?_⟩
            rw [List.drop_eq_getElem_cons (by omega), List.drop_eq_getElem_cons (by omega), List.drop_eq_getElem_cons (by omega)]
            rfl
          have ha : ∀ x ∈ [a, b, c], x.length ≤ 100000 := fun x hx => hs x (List.mem_of_mem_drop (i := 3 * k) (by rw [hd]; revert hx; simp; rintro (h | h | h) <;> simp [h]))
          have Hm := rtmet_fn a b c (ha a (by simp)) (ha b (by simp)) (ha c (by simp))
          have ew : IntKind.i64.wrap (((1 + 3 * k : Nat) : Int) + 3) = ((1 + 3 * (k + 1) : Nat) : Int) := by rw [IntWalk.i64_in _ (by omega)]; omega
          have hT : List.drop (((1 + 3 * k : Nat) : Int)).toNat (List.take (IntKind.i64.wrap (((1 + 3 * k : Nat) : Int) + 3)).toNat (([109, 101, 101, 116, 105, 110, 103, 115] :: t).map fun s => [str s])) = [a, b, c].map fun s => [str s] := by
            rw [ew, Int.toNat_natCast, Int.toNat_natCast, ← List.map_take, ← List.map_drop, show 1 + 3 * (k + 1) = (3 * k + 3) + 1 by omega, List.take_succ_cons, Nat.add_comm 1, List.drop_succ_cons, List.drop_take, hd, show 3 * k + 3 - 3 * k = 3 by omega]
            rfl
          rw [show strs [a, b, c] = .list 1 (List.drop (((1 + 3 * k : Nat) : Int)).toNat (List.take (IntKind.i64.wrap (((1 + 3 * k : Nat) : Int) + 3)).toNat (([109, 101, 101, 116, 105, 110, 103, 115] :: t).map fun s => [str s]))) by rw [hT]] at Hm
          rw [hd, rdMx] at e1 e2
          have hj : (rdMx t).1 = L ++ ((metV a b c).1 :: if (metV a b c).2 = true then (rdMx (t.drop (3 * (k + 1)))).1 else []) ∧ (rdMx t).2 = ((metV a b c).2 && (rdMx (t.drop (3 * (k + 1)))).2) := by
            by_cases h : (metV a b c).2 = true
            · rw [if_pos h] at e1 e2 ⊢
              rw [h]
              exact ⟨e1, by simpa using e2⟩
            · rw [if_neg h] at e1 e2 ⊢
              rw [show (metV a b c).2 = false by simpa using h]
              exact ⟨e1, e2⟩
          clear e1 e2 hT hd ha
          generalize metV a b c = m at *
          obtain ⟨⟨m1, m2, m3, m4⟩, mb⟩ := m
          simp only [retMt, Mt.dc] at Hm hj
          have hlm : (L.map Mt.c).length = L.length := List.length_map ..
          repeat' ((conv => whnf); first | (with_reducible first | refine br_t ?_ | refine br_f ?_ | refine za ?_ | refine zg ?_ | refine zo ?_) | refine zsl ?_ | refine zsg ?_ | refine zss ?_ | refine zs1 ?_ | refine zse ?_ | refine zsn ?_ | refine zsc ?_ | (with_reducible first | refine zpa ?_ | refine zqa ?_) | refine zp ?_ | refine zq ?_ | (with_reducible first | refine bc (fun h => ?_) (fun h => ?_) | refine zt ?_ | refine zf ?_ | refine br_i (fun h => ?_) (fun h => ?_)) | refine zg ?_ | refine zi ?_ | refine zb ?_ | refine zl ?_)
          all_goals conv => whnf
          refine ⟨(k + 1, mb, L ++ [⟨m1, m2, m3, m4⟩]), ⟨by simp only; omega, by simp; omega, ?_⟩, ?_, by simp only; omega⟩
          · simp only
            cases mb
            · exact .inr ⟨rfl, by rw [hj.1]; rfl, by rw [hj.2]; rfl⟩
            · exact .inl ⟨rfl, by rw [hj.1]; simp, by rw [hj.2]; rfl⟩
          · simp only
            rw [← ew, List.map_append]
            (conv => whnf); exact zent
      · rw [e1, e2]
        clear e1 e2
        rcases Nat.lt_or_ge (3 * k) t.length with hlt | hge
        · repeat' ((conv => whnf); first | (with_reducible first | refine br_t ?_ | refine br_f ?_ | refine za ?_ | refine zg ?_ | refine zo ?_) | refine zsl ?_ | refine zsg ?_ | refine zss ?_ | refine zs1 ?_ | refine zse ?_ | refine zsn ?_ | refine zsc ?_ | (with_reducible first | refine zpa ?_ | refine zqa ?_) | refine zp ?_ | refine zq ?_ | (with_reducible first | refine bc (fun h => ?_) (fun h => ?_) | refine zt ?_ | refine zf ?_ | refine br_i (fun h => ?_) (fun h => ?_)) | refine zg ?_ | refine zi ?_ | refine zb ?_ | refine zl ?_)
          all_goals conv => whnf
          all_goals rfl
        · repeat' ((conv => whnf); first | (with_reducible first | refine br_t ?_ | refine br_f ?_ | refine za ?_ | refine zg ?_ | refine zo ?_) | refine zsl ?_ | refine zsg ?_ | refine zss ?_ | refine zs1 ?_ | refine zse ?_ | refine zsn ?_ | refine zsc ?_ | (with_reducible first | refine zpa ?_ | refine zqa ?_) | refine zp ?_ | refine zq ?_ | (with_reducible first | refine bc (fun h => ?_) (fun h => ?_) | refine zt ?_ | refine zf ?_ | refine br_i (fun h => ?_) (fun h => ?_)) | refine zg ?_ | refine zi ?_ | refine zb ?_ | refine zl ?_)
          all_goals conv => whnf
          all_goals rfl
    · refine ⟨rp0, false, Nat.zero_le _, ?_, ?_⟩
      · exact none_of (fun c => absurd c.1 (by decide)) (fun c => absurd c.1 (by decide)) (fun c => absurd c.1 (by decide)) (fun c => absurd c.1 (by decide)) (fun c => h c.2)
      simp only [retRb, Rp.dc, rp0, mts, List.map_nil]
      have hrm : ¬ Int.tmod (((([109, 101, 101, 116, 105, 110, 103, 115] :: t).map fun s => [str s]).length : Nat) : Int) 3 = 1 := by rw [gl, Int.tmod_eq_emod_of_nonneg (by omega)]; omega
      refine fn_ok (by kernel_rfl) (ty_okK [158] [] [] []) Tryz.func63 rfl (fun _ _ => Tryz.call63 _ _) rfl ?_
      intro hw
      clear hw none_of
      repeat' ((conv => whnf); first | (with_reducible first | refine br_t ?_ | refine br_f ?_ | refine za ?_ | refine zg ?_ | refine zo ?_) | refine zsl ?_ | refine zsg ?_ | refine zss ?_ | refine zs1 ?_ | refine zse ?_ | refine zsn ?_ | refine zsc ?_ | (with_reducible first | refine zpa ?_ | refine zqa ?_) | refine zp ?_ | refine zq ?_ | (with_reducible first | refine bc (fun h => ?_) (fun h => ?_) | refine zt ?_ | refine zf ?_ | refine br_i (fun h => ?_) (fun h => ?_)) | refine zg ?_ | refine zi ?_ | refine zb ?_ | refine zl ?_)
      all_goals conv => whnf
      all_goals rfl
  · refine ⟨rp0, false, Nat.zero_le _, ?_, ?_⟩
    · exact none_of (fun c => k1 c.1) (fun c => k2 c.1) (fun c => k3 c.1) (fun c => k4 c.1) (fun c => k5 c.1)
    simp only [retRb, Rp.dc, rp0, mts, List.map_nil]
    refine fn_ok (by kernel_rfl) (ty_okK [158] [] [] []) Tryz.func63 rfl (fun _ _ => Tryz.call63 _ _) rfl ?_
    intro hw
    clear hw none_of
    repeat' ((conv => whnf); first | (with_reducible first | refine br_t ?_ | refine br_f ?_ | refine za ?_ | refine zg ?_ | refine zo ?_) | refine zsl ?_ | refine zsg ?_ | refine zss ?_ | refine zs1 ?_ | refine zse ?_ | refine zsn ?_ | refine zsc ?_ | (with_reducible first | refine zpa ?_ | refine zqa ?_) | refine zp ?_ | refine zq ?_ | (with_reducible first | refine bc (fun h => ?_) (fun h => ?_) | refine zt ?_ | refine zf ?_ | refine br_i (fun h => ?_) (fun h => ?_)) | refine zg ?_ | refine zi ?_ | refine zb ?_ | refine zl ?_)
    all_goals conv => whnf
    all_goals rfl
theorem br_cases (r : Rp) (s : Str) : (rchk r = 0 ∧ rText r = s ∧ backR s (some r) = (r, 0)) ∨ (rchk r = 0 ∧ rText r ≠ s ∧ backR s (some r) = (rp0, 12)) ∨ (rchk r = 8 ∧ backR s (some r) = (rp0, 12)) := by
  rcases rchk_08 r with h | h
  · by_cases e : rText r = s
    · exact .inl ⟨h, e, backR_of h e⟩
    · exact .inr (.inl ⟨h, e, by unfold backR; dsimp only; rw [if_neg fun k => e k.2]⟩)
  · exact .inr (.inr ⟨h, by unfold backR; dsimp only; rw [if_neg fun k => by omega]⟩)
theorem rtReadReply_fn (s : Str) (hs : s.length ≤ 100000 ∨ 110000 < s.length) (hs1 : s.length ≤ 1000000) : FnOK Tryz.prog 29 [.one (str s)] (retRp (rreadR s)) := by
  unfold rreadR
  by_cases hb : 110000 < s.length
  · rw [if_pos hb]
    simp only [retRp, Rp.dc, rp0, mts, List.map_nil]
    refine fn_ok (by kernel_rfl) ty_ok Tryz.func29 rfl (fun _ _ => Tryz.call29 _ _) rfl ?_
    intro hw
    clear hw
    repeat' ((conv => whnf); first | (with_reducible first | refine br_t ?_ | refine br_f ?_ | refine za ?_ | refine zg ?_) | refine zsl ?_ | refine zsg ?_ | refine zss ?_ | refine zs1 ?_ | refine zse ?_ | refine zsn ?_ | refine zsc ?_ | (with_reducible first | refine zpa ?_ | refine zqa ?_) | refine zp ?_ | refine zq ?_ | (with_reducible first | refine bc (fun h => ?_) (fun h => ?_) | refine zt ?_ | refine zf ?_ | refine br_i (fun h => ?_) (fun h => ?_)) | refine zg ?_ | refine zi ?_ | refine zb ?_)
    all_goals conv => whnf
    all_goals rfl
  rw [if_neg hb]
  have hs : s.length ≤ 100000 := by omega
  have Hs : FnOK Tryz.prog 36 [.one (str s), .one (.v (.int .u8 32))] (.c (.one (strs (spl 32 s)))) := rcCut_fn s 32 hs
  have hl1 := spl_len 32 s
  have hl2 := spl_each 32 s
  obtain ⟨w0, t, hL⟩ : ∃ w0 t, spl 32 s = w0 :: t := by
    cases h : spl 32 s with
    | nil => exact absurd h (spl_ne 32 s)
    | cons a b => exact ⟨a, b, rfl⟩
  unfold rrdR
  rw [hL] at Hs hl1 hl2 ⊢
  simp only [List.headD_cons, List.tail_cons]
  have hlt : t.length ≤ 100000 := by simp only [List.length_cons] at hl1; omega
  obtain ⟨X, b, hX0, hX, Hr⟩ := rtread_fn w0 t hlt fun x hx => Nat.le_trans (hl2 x (List.mem_cons_of_mem _ hx)) (by omega)
  rw [hX]
  clear hX hl1 hl2 hL
  cases b
  · rw [if_neg (by decide), show backR s none = (rp0, 12) from rfl]
    obtain ⟨e, i, j, n, d, l⟩ := X
    simp only [retRb, retRp, Rp.dc, rp0, mts, List.map_nil] at Hr ⊢
    refine fn_ok (by kernel_rfl) ty_ok Tryz.func29 rfl (fun _ _ => Tryz.call29 _ _) rfl ?_
    intro hw
    clear hw
    repeat' ((conv => whnf); first | (with_reducible first | refine br_t ?_ | refine br_f ?_ | refine za ?_ | refine zg ?_) | refine zsl ?_ | refine zsg ?_ | refine zss ?_ | refine zs1 ?_ | refine zse ?_ | refine zsn ?_ | refine zsc ?_ | (with_reducible first | refine zpa ?_ | refine zqa ?_) | refine zp ?_ | refine zq ?_ | (with_reducible first | refine bc (fun h => ?_) (fun h => ?_) | refine zt ?_ | refine zf ?_ | refine br_i (fun h => ?_) (fun h => ?_)) | refine zg ?_ | refine zi ?_ | refine zb ?_)
    all_goals conv => whnf
    all_goals rfl
  · rw [if_pos rfl]
    have Hc := rtCheck_fn X hX0
    have Ht := rttext_fn X
    rcases br_cases X s with ⟨h1, h2, h⟩ | ⟨h1, h2, h⟩ | ⟨h1, h⟩
    all_goals rw [h1] at Hc
    all_goals rw [h]
    all_goals try replace Ht := Ht h1
    all_goals clear h h1
    all_goals obtain ⟨T, hT⟩ : ∃ T, T = rText X := ⟨_, rfl⟩
    all_goals try rw [← hT] at h2
    all_goals try rw [← hT] at Ht
    all_goals clear hT
    all_goals obtain ⟨e, i, j, n, d, l⟩ := X
    all_goals simp only [retRb, retRp, Rp.dc, rp0, mts, List.map_nil] at Hr Hc Ht ⊢
    · refine fn_ok (by kernel_rfl) ty_ok Tryz.func29 rfl (fun _ _ => Tryz.call29 _ _) rfl ?_
      intro hw
      clear hw
      repeat' ((conv => whnf); first | (with_reducible first | refine br_t ?_ | refine br_f ?_ | refine za ?_ | refine zg ?_) | refine zsl ?_ | refine zsg ?_ | refine zss ?_ | refine zs1 ?_ | refine zse ?_ | refine zsn ?_ | refine zsc ?_ | (with_reducible first | refine zpa ?_ | refine zqa ?_) | refine zp ?_ | refine zq ?_ | (with_reducible first | refine bc (fun h => ?_) (fun h => ?_) | refine zt ?_ | refine zf ?_ | refine br_i (fun h => ?_) (fun h => ?_)) | refine zg ?_ | refine zi ?_ | refine zb ?_)
      all_goals conv => whnf
      all_goals first | rfl | contradiction
    · refine fn_ok (by kernel_rfl) ty_ok Tryz.func29 rfl (fun _ _ => Tryz.call29 _ _) rfl ?_
      intro hw
      clear hw
      repeat' ((conv => whnf); first | (with_reducible first | refine br_t ?_ | refine br_f ?_ | refine za ?_ | refine zg ?_) | refine zsl ?_ | refine zsg ?_ | refine zss ?_ | refine zs1 ?_ | refine zse ?_ | refine zsn ?_ | refine zsc ?_ | (with_reducible first | refine zpa ?_ | refine zqa ?_) | refine zp ?_ | refine zq ?_ | (with_reducible first | refine bc (fun h => ?_) (fun h => ?_) | refine zt ?_ | refine zf ?_ | refine br_i (fun h => ?_) (fun h => ?_)) | refine zg ?_ | refine zi ?_ | refine zb ?_)
      all_goals conv => whnf
      all_goals first | rfl | contradiction
    · refine fn_ok (by kernel_rfl) ty_ok Tryz.func29 rfl (fun _ _ => Tryz.call29 _ _) rfl ?_
      intro hw
      clear hw
      repeat' ((conv => whnf); first | (with_reducible first | refine br_t ?_ | refine br_f ?_ | refine za ?_ | refine zg ?_) | refine zsl ?_ | refine zsg ?_ | refine zss ?_ | refine zs1 ?_ | refine zse ?_ | refine zsn ?_ | refine zsc ?_ | (with_reducible first | refine zpa ?_ | refine zqa ?_) | refine zp ?_ | refine zq ?_ | (with_reducible first | refine bc (fun h => ?_) (fun h => ?_) | refine zt ?_ | refine zf ?_ | refine br_i (fun h => ?_) (fun h => ?_)) | refine zg ?_ | refine zi ?_ | refine zb ?_)
      all_goals conv => whnf
      all_goals first | rfl | contradiction
end Go.Proofs.YtgdpogdgpfjnoaaGreatDoor

namespace Go.Proofs.YtgdpogdgpfjnoaaGreatDoor
open Go Go.RowKit Go.Sort Sx
open Go.Lib hiding intOf
attribute [local go_sem] str_eql str_neq
theorem read_arg {w : World} {M : Nat → Prop} {w0 : Str} {t : List Str} {v : Value} (hv : Rep w M (strs (w0 :: t)) v) : ∃ b o c, v = .slice (some ⟨b, o, none⟩) (t.length + 1) c ∧ t.length + 1 ≤ c ∧ b < w.heap.size ∧ w.cell? ⟨b, o, none⟩ = some (bstr w0) ∧ (c = 1 → Rep w M (strs t) (.slice (some ⟨b, o, none⟩) t.length 0)) ∧ (c ≠ 1 → Rep w M (strs t) (.slice (some ⟨b, o + 1, none⟩) t.length (c - 1))) := by
  obtain ⟨b, o, c, rfl, hc, hb, hcell⟩ := rep_strs (by simp) hv
  exact ⟨b, o, c, rfl, hc, hb, hcell 0 (by simp), rep_tail hv hc⟩
theorem ld_scan {n : Nat} {t : List Str} {w : World} {M : Nat → Prop} (hM : ∀ b, M b → b < w.heap.size) (hg : Gd w) (hl : t.length ≤ 1000000) (hs : ∀ x ∈ t, x.length ≤ 1000000) {v : Value} (hv : Rep w M (strs t) v) :
    CallsIn Fence.wide n Tryz.prog 49 #[v, .slice (some ⟨w.heap.size + 2, 0, none⟩) 2 2] ((rdW w).alloc (.cells #[.iface 141 (.pointer (some ⟨w.heap.size, 1, none⟩)), .iface 97 (.pointer (some ⟨w.heap.size, 3, none⟩))] 20)) fun e w' => e = .returned (.bool (ldX t).2) ∧ w'.heap[w.heap.size]? = some (.cells (rpC (ldX t).1 (.slice none 0 0)) 28 (0, 0)) ∧ Boxed w' (w.heap.size + 1) 4 (.bool false) ∧ Below w.heap.size w w' := by
  obtain ⟨s1, s2, s3, s4⟩ := rdW_ok w
  have h := scan_one (ts := [.i w.heap.size 1, .r w.heap.size 3]) (R := w.heap.size) (n := w.heap.size) (b := (ldX t).2) (by simp) (by simp [Tg.b]) hl (by simp) hs (gd_below s4 hg) s2 (by
    intro x hx
    simp only [List.mem_cons, List.not_mem_nil, or_false] at hx
    rcases hx with rfl | rfl
    · exact cel6 s2 (by decide)
    · exact ⟨cel6 s2 (by decide), cel6 s2 (by decide)⟩) (gd_size hg) (Nat.le_refl _) (hv.mono (Holds.of_below s4) fun b hb e => absurd e (by omega)) (fun hlen W' h => ldX_sc hlen W' h) (fun hlen => by rw [ldX_no hlen]; exact ⟨rfl, rfl⟩)
  rw [s1] at h
  refine callsIn_wide.2 (h.mono ?_)
  rintro e w' ⟨rfl, h1, h2, h3⟩
  exact ⟨rfl, h1, (h2 _ (by omega) (by omega)).trans s3, s4.trans h3⟩
theorem pr_scan {n : Nat} {t : List Str} {w : World} {M : Nat → Prop} (hM : ∀ b, M b → b < w.heap.size) (hg : Gd w) (hl : t.length ≤ 1000000) (hs : ∀ x ∈ t, x.length ≤ 1000000) {v : Value} (hv : Rep w M (strs t) v) :
    CallsIn Fence.wide n Tryz.prog 49 #[v, .slice (some ⟨w.heap.size + 2, 0, none⟩) 3 3] ((rdW w).alloc (.cells #[.iface 141 (.pointer (some ⟨w.heap.size, 1, none⟩)), .iface 141 (.pointer (some ⟨w.heap.size, 2, none⟩)), .iface 97 (.pointer (some ⟨w.heap.size, 3, none⟩))] 20)) fun e w' => e = .returned (.bool (prX t).2) ∧ w'.heap[w.heap.size]? = some (.cells (rpC (prX t).1 (.slice none 0 0)) 28 (0, 0)) ∧ Boxed w' (w.heap.size + 1) 4 (.bool false) ∧ Below w.heap.size w w' := by
  obtain ⟨s1, s2, s3, s4⟩ := rdW_ok w
  have h := scan_one (ts := [.i w.heap.size 1, .i w.heap.size 2, .r w.heap.size 3]) (R := w.heap.size) (n := w.heap.size) (b := (prX t).2) (by simp) (by simp [Tg.b]) hl (by simp) hs (gd_below s4 hg) s2 (by
    intro x hx
    simp only [List.mem_cons, List.not_mem_nil, or_false] at hx
    rcases hx with rfl | rfl | rfl
    · exact cel6 s2 (by decide)
    · exact cel6 s2 (by decide)
    · exact ⟨cel6 s2 (by decide), cel6 s2 (by decide)⟩) (gd_size hg) (Nat.le_refl _) (hv.mono (Holds.of_below s4) fun b hb e => absurd e (by omega)) (fun hlen W' h => prX_sc hlen W' h) (fun hlen => by rw [prX_no hlen]; exact ⟨rfl, rfl⟩)
  rw [s1] at h
  refine callsIn_wide.2 (h.mono ?_)
  rintro e w' ⟨rfl, h1, h2, h3⟩
  exact ⟨rfl, h1, (h2 _ (by omega) (by omega)).trans s3, s4.trans h3⟩
theorem drew_heap (W : World) : W.drew.heap = W.heap := rfl
def rpFin0 (n0 : Nat) (W : World) (u v x y z m e : Value) : World := ((((((W.setCell ⟨n0, 0, none⟩ u).setCell ⟨n0, 1, none⟩ v).setCell ⟨n0, 2, none⟩ x).setCell ⟨n0, 3, none⟩ y).setCell ⟨n0, 4, none⟩ z).setCell ⟨n0, 5, none⟩ m).setCell ⟨n0 + 1, 0, none⟩ e
def rpFin (n0 : Nat) (W : World) (u v x y z m e : Value) : World := (rpFin0 n0 W u v x y z m e).drew
theorem rpFin_ok {w W : World} {n0 : Nat} {cs : Array Value} {e' : Value} (u v x y z m e : Value) (hc : cs.size = 6) (h6 : W.heap[n0]? = some (.cells cs 28 (0, 0))) (h7 : Boxed W (n0 + 1) 4 e') (hn : w.heap.size ≤ n0) (h8 : Below w.heap.size w W) :
    (rpFin n0 W u v x y z m e).heap[n0]? = some (.cells #[u, v, x, y, z, m] 28 (0, 0)) ∧ Boxed (rpFin n0 W u v x y z m e) (n0 + 1) 4 e ∧ Below w.heap.size w (rpFin n0 W u v x y z m e) ∧ (∀ k, k ≠ n0 → k ≠ n0 + 1 → (rpFin n0 W u v x y z m e).heap[k]? = W.heap[k]?) := by
  refine ⟨?_, ?_, ?_, ?_⟩
  · rw [rpFin, drew_heap]
    unfold rpFin0
    refine setCell_o (by omega) ?_
    rw [set6 5 m (set6 4 z (set6 3 y (set6 2 x (set6 1 v (set6 0 u h6)))))]
    obtain ⟨l⟩ := cs
    match l, hc with
    | [_, _, _, _, _, _], _ => rfl
  · unfold Boxed
    rw [rpFin, drew_heap]
    unfold rpFin0
    refine Boxed.set e (v := e') ?_
    exact setCell_o (by omega) (setCell_o (by omega) (setCell_o (by omega) (setCell_o (by omega) (setCell_o (by omega) (setCell_o (by omega) h7)))))
  · refine Below.drew ?_
    unfold rpFin0
    exact ((((((h8.setCell hn _).setCell hn _).setCell hn _).setCell hn _).setCell hn _).setCell hn _).setCell (by show w.heap.size ≤ n0 + 1; omega) _
  · intro k h1 h2
    rw [rpFin, drew_heap]
    unfold rpFin0
    exact (setCell_other h2).trans ((setCell_other h1).trans ((setCell_other h1).trans ((setCell_other h1).trans ((setCell_other h1).trans ((setCell_other h1).trans (setCell_other h1))))))
theorem read_end0 {n : Nat} {w W : World} {M : Nat → Prop} {tmps : Array Value} {r : Rp} {ms : Value} {ok : Bool} (h2 : tmps[2]? = some (.pointer (some ⟨w.heap.size, 0, none⟩))) (h3 : tmps[3]? = some (.pointer (some ⟨w.heap.size + 1, 0, none⟩)))
    (h6 : W.heap[w.heap.size]? = some (.cells (rpC r ms) 28 (0, 0))) (h7 : Boxed W (w.heap.size + 1) 4 (.bool ok)) (h8 : Below w.heap.size w W) (hr : rpIn r) (hm : Rep W M (mts r.ms) ms) :
    bodyPostM Fence.wide n Tryz.prog Tryz.f47 (fun e w' => ∃ u, e = .returned u ∧ DVR w' M (retRb r ok) u ∧ Below w.heap.size w w') Exit.ret { tmps := tmps, defers := [] } W := by
  obtain ⟨q1, q2, q3, q4, q5⟩ := hr
  refine ⟨_, results_read tmps h2 h3 h6 h7, _, rfl, ?_, h8⟩
  exact ⟨_, rfl, ⟨_, rfl, .v _ rfl q1, .v _ rfl q2, .v _ rfl q3, .v _ rfl q4, .v _ rfl q5, hm, trivial⟩, .v _ rfl trivial, trivial⟩
theorem rep_nil4 {W : World} {M : Nat → Prop} {r : Rp} (hm : r.ms = []) : Rep W M (mts r.ms) (.slice none 0 0) := by
  rw [hm]
  exact .nil 4 none 0 (by decide) (fun _ => rfl)
theorem read_end {n : Nat} {w W : World} {M : Nat → Prop} {tmps : Array Value} {r : Rp} {ok : Bool} (h2 : tmps[2]? = some (.pointer (some ⟨w.heap.size, 0, none⟩))) (h3 : tmps[3]? = some (.pointer (some ⟨w.heap.size + 1, 0, none⟩)))
    (h6 : W.heap[w.heap.size]? = some (.cells (rpC r (.slice none 0 0)) 28 (0, 0))) (h7 : Boxed W (w.heap.size + 1) 4 (.bool ok)) (h8 : Below w.heap.size w W) (hr : rpIn r) (hm : r.ms = []) :
    bodyPostM Fence.wide n Tryz.prog Tryz.f47 (fun e w' => ∃ u, e = .returned u ∧ DVR w' M (retRb r ok) u ∧ Below w.heap.size w w') Exit.ret { tmps := tmps, defers := [] } (rpFin w.heap.size W (.int .i64 r.e) (.int .i64 r.i) (.int .i64 r.j) (.int .i64 r.n) (.int .i64 r.d) (.slice none 0 0) (.bool ok)) := by
  obtain ⟨x1, x2, x3, _⟩ := rpFin_ok (w := w) (.int .i64 r.e) (.int .i64 r.i) (.int .i64 r.j) (.int .i64 r.n) (.int .i64 r.d) (.slice none 0 0) (.bool ok) rfl h6 h7 (Nat.le_refl _) h8
  exact read_end0 h2 h3 x1 x2 x3 hr (rep_nil4 hm)
set_option maxRecDepth 100000 in
set_option maxHeartbeats 4000000 in
theorem read_ld {n : Nat} (t : List Str) (hl : t.length ≤ 1000000) (hs : ∀ x ∈ t, x.length ≤ 1000000) (w : World) (hg : Gd w) (M : Nat → Prop) (hM : ∀ b, M b → b < w.heap.size) (v : Value) (hv : Rep w M (strs (wLeader :: t)) v) (hn : 1 ≤ n) :
    CallsIn Fence.wide n Tryz.prog 47 #[v] w fun e w' => ∃ u, e = .returned u ∧ DVR w' M (retRb (ldX t).1 (ldX t).2) u ∧ Below w.heap.size w w' := by
  obtain ⟨b, o, c, rfl, hc, hb, h0, r1, r2⟩ := read_arg hv
  have q1 := fun h => ld_scan (n := n - 1) hM hg hl hs (r1 h)
  have q2 := fun h => ld_scan (n := n - 1) hM hg hl hs (r2 h)
  clear r1 r2
  have hf1 : Fence.wide.fn 49 := trivial
  have hX := ldX_in t
  have hXm : (ldX t).1.ms = [] := by
    unfold ldX
    split
    · rcases atoV _ with _ | i
      · rfl
      · rcases frV _ with _ | q <;> rfl
    · rfl
  generalize ldX t = p at *
  obtain ⟨⟨xe, xi, xj, xn, xd, xm⟩, ok⟩ := p
  simp only [rdW, rpC, rp0] at q1 q2 hX hXm
  subst hXm
  refine callsIn_of_wp_marks Tryz.func47 rfl trivial ?_ rfl
  simp only [Tryz.ntmps47, List.size_toArray, List.length_cons, List.length_nil, Nat.reduceAdd, Nat.reduceSub, Array.replicate_succ, Array.replicate_zero, List.push_toArray, List.append_toArray, List.nil_append, List.cons_append]
  gi_wp2_with (first
    | (gi_at_call 49; (first | with_reducible refine CallsIn.mono (q1 (by assumption)) ?_ | with_reducible refine CallsIn.mono (q2 (by assumption)) ?_); rintro e W5 ⟨rfl, hR5, hK5, hB5⟩; obtain ⟨⟨a0, a1, a2, a3, a4, a5⟩, fz⟩ := cells6 hR5; have f0 := fz 0; have f1 := fz 1; have f2 := fz 2; have f3 := fz 3; have f4 := fz 4; have f5 := fz 5; have e0 := hK5.cell; have e1 := hK5.frozen))
  all_goals
    obtain ⟨W6, hW6⟩ : ∃ W6, W6 = W5.setCell ⟨w.heap.size + 1, 0, none⟩ (.bool ok) := ⟨_, rfl⟩
    have g6 : W6.heap[w.heap.size]? = some (.cells #[.int .i64 xe, .int .i64 xi, .int .i64 xj, .int .i64 xn, .int .i64 xd, .slice none 0 0] 28 (0, 0)) := by rw [hW6]; exact setCell_o (by omega) hR5
    have g7 : Boxed W6 (w.heap.size + 1) 4 (.bool ok) := by rw [hW6]; exact hK5.set _
    have g8 : Below w.heap.size w W6 := by rw [hW6]; exact hB5.setCell (by show w.heap.size ≤ w.heap.size + 1; omega) _
    rw [← hW6]
    clear hW6 a0 a1 a2 a3 a4 a5 f0 f1 f2 f3 f4 f5 e0 e1 q1 q2 fz hR5 hK5 hB5
    obtain ⟨⟨a0, a1, a2, a3, a4, a5⟩, fz⟩ := cells6 g6
    have f0 := fz 0
    have f1 := fz 1
    have f2 := fz 2
    have f3 := fz 3
    have f4 := fz 4
    have f5 := fz 5
    have e0 := g7.cell
    have e1 := g7.frozen
    gi_region
    gi_wp2
    exact read_end (r := ⟨xe, xi, xj, xn, xd, []⟩) rfl rfl g6 g7 g8 hX rfl
set_option maxRecDepth 100000 in
set_option maxHeartbeats 4000000 in
theorem read_pr {n : Nat} (t : List Str) (hl : t.length ≤ 1000000) (hs : ∀ x ∈ t, x.length ≤ 1000000) (w : World) (hg : Gd w) (M : Nat → Prop) (hM : ∀ b, M b → b < w.heap.size) (v : Value) (hv : Rep w M (strs (wPair :: t)) v) (hn : 1 ≤ n) :
    CallsIn Fence.wide n Tryz.prog 47 #[v] w fun e w' => ∃ u, e = .returned u ∧ DVR w' M (retRb (prX t).1 (prX t).2) u ∧ Below w.heap.size w w' := by
  obtain ⟨b, o, c, rfl, hc, hb, h0, r1, r2⟩ := read_arg hv
  have q1 := fun h => pr_scan (n := n - 1) hM hg hl hs (r1 h)
  have q2 := fun h => pr_scan (n := n - 1) hM hg hl hs (r2 h)
  clear r1 r2
  have hf1 : Fence.wide.fn 49 := trivial
  have hX := prX_in t
  have hXm : (prX t).1.ms = [] := by
    unfold prX
    split
    · rcases atoV _ with _ | i
      · rfl
      · rcases atoV _ with _ | j
        · rfl
        · rcases frV _ with _ | q <;> rfl
    · rfl
  generalize prX t = p at *
  obtain ⟨⟨xe, xi, xj, xn, xd, xm⟩, ok⟩ := p
  simp only [rdW, rpC, rp0] at q1 q2 hX hXm
  subst hXm
  refine callsIn_of_wp_marks Tryz.func47 rfl trivial ?_ rfl
  simp only [Tryz.ntmps47, List.size_toArray, List.length_cons, List.length_nil, Nat.reduceAdd, Nat.reduceSub, Array.replicate_succ, Array.replicate_zero, List.push_toArray, List.append_toArray, List.nil_append, List.cons_append]
  gi_wp2_with (first
    | (gi_at_call 49; (first | with_reducible refine CallsIn.mono (q1 (by assumption)) ?_ | with_reducible refine CallsIn.mono (q2 (by assumption)) ?_); rintro e W5 ⟨rfl, hR5, hK5, hB5⟩; obtain ⟨⟨a0, a1, a2, a3, a4, a5⟩, fz⟩ := cells6 hR5; have f0 := fz 0; have f1 := fz 1; have f2 := fz 2; have f3 := fz 3; have f4 := fz 4; have f5 := fz 5; have e0 := hK5.cell; have e1 := hK5.frozen))
  all_goals
    obtain ⟨W6, hW6⟩ : ∃ W6, W6 = W5.setCell ⟨w.heap.size + 1, 0, none⟩ (.bool ok) := ⟨_, rfl⟩
    have g6 : W6.heap[w.heap.size]? = some (.cells #[.int .i64 xe, .int .i64 xi, .int .i64 xj, .int .i64 xn, .int .i64 xd, .slice none 0 0] 28 (0, 0)) := by rw [hW6]; exact setCell_o (by omega) hR5
    have g7 : Boxed W6 (w.heap.size + 1) 4 (.bool ok) := by rw [hW6]; exact hK5.set _
    have g8 : Below w.heap.size w W6 := by rw [hW6]; exact hB5.setCell (by show w.heap.size ≤ w.heap.size + 1; omega) _
    rw [← hW6]
    clear hW6 a0 a1 a2 a3 a4 a5 f0 f1 f2 f3 f4 f5 e0 e1 q1 q2 fz hR5 hK5 hB5
    obtain ⟨⟨a0, a1, a2, a3, a4, a5⟩, fz⟩ := cells6 g6
    have f0 := fz 0
    have f1 := fz 1
    have f2 := fz 2
    have f3 := fz 3
    have f4 := fz 4
    have f5 := fz 5
    have e0 := g7.cell
    have e1 := g7.frozen
    gi_region
    gi_wp2
    exact read_end (r := ⟨xe, xi, xj, xn, xd, []⟩) rfl rfl g6 g7 g8 hX rfl
theorem er_scan {n : Nat} {t : List Str} {w : World} {M : Nat → Prop} (hM : ∀ b, M b → b < w.heap.size) (hg : Gd w) (hl : t.length ≤ 1000000) (hs : ∀ x ∈ t, x.length ≤ 1000000) {v : Value} (hv : Rep w M (strs t) v) :
    CallsIn Fence.wide n Tryz.prog 49 #[v, .slice (some ⟨w.heap.size + 3, 0, none⟩) 1 1] (((rdW w).alloc (.cells #[.int .i64 0] 3)).alloc (.cells #[.iface 141 (.pointer (some ⟨w.heap.size + 2, 0, none⟩))] 20)) fun e w' => e = .returned (.bool (erX t).2) ∧ w'.heap[w.heap.size]? = some (.cells (rpC rp0 (.slice none 0 0)) 28 (0, 0)) ∧ Boxed w' (w.heap.size + 1) 4 (.bool false) ∧ Boxed w' (w.heap.size + 2) 3 (.int .i64 (erX t).1) ∧ Below w.heap.size w w' := by
  obtain ⟨s1, s2, s3, s4⟩ := rdW_ok w
  obtain ⟨W, hW⟩ : ∃ W, W = (rdW w).alloc (.cells #[.int .i64 0] 3) := ⟨_, rfl⟩
  have t1 : W.heap.size = w.heap.size + 3 := by rw [hW, World.size_alloc, s1]
  have t2 : W.heap[w.heap.size + 2]? = some (.cells #[.int .i64 0] 3 (0, 0)) := by rw [hW, ← s1]; exact World.alloc_heap_new _ _
  have t3 : Below (w.heap.size + 2) (rdW w) W := by rw [hW, ← s1]; exact (Below.refl _ _).alloc (Nat.le_refl _) _
  have t4 : Below w.heap.size w W := s4.trans (t3.mono (by omega))
  rw [← hW]
  clear hW
  have h := scan_one (ts := [.i (w.heap.size + 2) 0]) (R := w.heap.size + 2) (n := w.heap.size) (b := (erX t).2) (by simp) (by simp [Tg.b]) hl (by simp) hs (gd_below t4 hg) t2 (by
    intro x hx
    obtain rfl := List.mem_singleton.1 hx
    exact cel6 t2 (by decide)) (by have := gd_size hg; omega) (by omega) (hv.mono (Holds.of_below t4) fun b hb e => absurd e (by omega)) (fun hlen W' h => erX_sc hlen W' h) (fun hlen => by rw [erX_no hlen]; exact ⟨rfl, rfl⟩)
  rw [t1] at h
  refine callsIn_wide.2 (h.mono ?_)
  rintro e w' ⟨rfl, h1, h2, h3⟩
  exact ⟨rfl, (h2 _ (by omega) (by omega)).trans ((t3.block _ (by omega)).trans s2), (h2 _ (by omega) (by omega)).trans ((t3.block _ (by omega)).trans s3), h1, t4.trans h3⟩
set_option maxRecDepth 100000 in
set_option maxHeartbeats 4000000 in
theorem read_er {n : Nat} (t : List Str) (hl : t.length ≤ 1000000) (hs : ∀ x ∈ t, x.length ≤ 1000000) (w : World) (hg : Gd w) (M : Nat → Prop) (hM : ∀ b, M b → b < w.heap.size) (v : Value) (hv : Rep w M (strs (wErr :: t)) v) (hn : 1 ≤ n) :
    CallsIn Fence.wide n Tryz.prog 47 #[v] w fun e w' => ∃ u, e = .returned u ∧ DVR w' M (retRb (rpE (erX t).1) (erX t).2) u ∧ Below w.heap.size w w' := by
  obtain ⟨b, o, c, rfl, hc, hb, h0, r1, r2⟩ := read_arg hv
  have q1 := fun h => er_scan (n := n - 1) hM hg hl hs (r1 h)
  have q2 := fun h => er_scan (n := n - 1) hM hg hl hs (r2 h)
  clear r1 r2
  have hf1 : Fence.wide.fn 49 := trivial
  have hX := erX_in t
  generalize erX t = p at *
  obtain ⟨xe, ok⟩ := p
  simp only [rdW, rpC, rp0] at q1 q2 hX
  refine callsIn_of_wp_marks Tryz.func47 rfl trivial ?_ rfl
  simp only [Tryz.ntmps47, List.size_toArray, List.length_cons, List.length_nil, Nat.reduceAdd, Nat.reduceSub, Array.replicate_succ, Array.replicate_zero, List.push_toArray, List.append_toArray, List.nil_append, List.cons_append]
  gi_wp2_with (first
    | (gi_at_call 49; (first | with_reducible refine CallsIn.mono (q1 (by assumption)) ?_ | with_reducible refine CallsIn.mono (q2 (by assumption)) ?_); rintro e W5 ⟨rfl, hR5, hK5, hN5, hB5⟩; have b0 := hN5.cell; have b1 := hN5.frozen; obtain ⟨⟨a0, a1, a2, a3, a4, a5⟩, fz⟩ := cells6 hR5; have f0 := fz 0; have f1 := fz 1; have f2 := fz 2; have f3 := fz 3; have f4 := fz 4; have f5 := fz 5; have e0 := hK5.cell; have e1 := hK5.frozen))
  all_goals
    obtain ⟨W6, hW6⟩ : ∃ W6, W6 = (W5.setCell ⟨w.heap.size + 1, 0, none⟩ (.bool ok)).setCell ⟨w.heap.size, 0, none⟩ (.int .i64 xe) := ⟨_, rfl⟩
    have g6 : W6.heap[w.heap.size]? = some (.cells #[.int .i64 xe, .int .i64 0, .int .i64 0, .int .i64 0, .int .i64 0, .slice none 0 0] 28 (0, 0)) := by rw [hW6]; exact set6 0 _ (setCell_o (by omega) hR5)
    have g7 : Boxed W6 (w.heap.size + 1) 4 (.bool ok) := by
      rw [hW6]
      have := hK5.set (.bool ok)
      exact setCell_o (by omega) this
    have g8 : Below w.heap.size w W6 := by rw [hW6]; exact (hB5.setCell (by show w.heap.size ≤ w.heap.size + 1; omega) _).setCell (Nat.le_refl _) _
    rw [← hW6]
    clear hW6 a0 a1 a2 a3 a4 a5 f0 f1 f2 f3 f4 f5 e0 e1 b0 b1 q1 q2 fz hR5 hK5 hN5 hB5
    obtain ⟨⟨a0, a1, a2, a3, a4, a5⟩, fz⟩ := cells6 g6
    have f0 := fz 0
    have f1 := fz 1
    have f2 := fz 2
    have f3 := fz 3
    have f4 := fz 4
    have f5 := fz 5
    have e0 := g7.cell
    have e1 := g7.frozen
    gi_region
    gi_wp2
    exact read_end (r := rpE xe) rfl rfl g6 g7 g8 ⟨hX, in0, in0, in0, in0⟩ rfl
set_option maxRecDepth 100000 in
set_option maxHeartbeats 4000000 in
theorem read_no {n : Nat} (w0 : Str) (t : List Str) (h1 : w0 ≠ wDone) (h2 : w0 ≠ wErr) (h3 : w0 ≠ wLeader) (h4 : w0 ≠ wPair) (h5 : w0 ≠ wMeet) (w : World) (M : Nat → Prop) (v : Value) (hv : Rep w M (strs (w0 :: t)) v) (hn : 1 ≤ n) :
    CallsIn Fence.wide n Tryz.prog 47 #[v] w fun e w' => ∃ u, e = .returned u ∧ DVR w' M (retRb rp0 false) u ∧ Below w.heap.size w w' := by
  obtain ⟨b, o, c, rfl, hc, hb, h0, r1, r2⟩ := read_arg hv
  clear r1 r2
  obtain ⟨s1, s2, s3, s4⟩ := rdW_ok w
  unfold rdW at s1 s2 s3 s4
  simp only [rpC, rp0] at s1 s2 s3 s4
  replace h1 : (w0 == [100, 111, 110, 101]) = false := beq_eq_false_iff_ne.2 h1
  replace h2 : (w0 == [101, 114, 114, 111, 114]) = false := beq_eq_false_iff_ne.2 h2
  replace h3 : (w0 == [108, 101, 97, 100, 101, 114]) = false := beq_eq_false_iff_ne.2 h3
  replace h4 : (w0 == [112, 97, 105, 114]) = false := beq_eq_false_iff_ne.2 h4
  replace h5 : (w0 == [109, 101, 101, 116, 105, 110, 103, 115]) = false := beq_eq_false_iff_ne.2 h5
  refine callsIn_of_wp_marks Tryz.func47 rfl trivial ?_ rfl
  simp only [Tryz.ntmps47, List.size_toArray, List.length_cons, List.length_nil, Nat.reduceAdd, Nat.reduceSub, Array.replicate_succ, Array.replicate_zero, List.push_toArray, List.append_toArray, List.nil_append, List.cons_append]
  have hx : ∀ W6 : World, W6 = (w.alloc (.cells #[.int .i64 0, .int .i64 0, .int .i64 0, .int .i64 0, .int .i64 0, .slice none 0 0] 28)).alloc (.cells #[.bool false] 4) → W6.heap[w.heap.size]? = some (.cells #[.int .i64 0, .int .i64 0, .int .i64 0, .int .i64 0, .int .i64 0, .slice none 0 0] 28 (0, 0)) ∧ Boxed W6 (w.heap.size + 1) 4 (.bool false) ∧ Below w.heap.size w W6 := fun W6 e => by subst e; exact ⟨s2, s3, s4⟩
  clear s1 s2 s3 s4
  gi_wp2
  all_goals
    obtain ⟨W6, hW6⟩ : ∃ W6, W6 = (w.alloc (.cells #[.int .i64 0, .int .i64 0, .int .i64 0, .int .i64 0, .int .i64 0, .slice none 0 0] 28)).alloc (.cells #[.bool false] 4) := ⟨_, rfl⟩
    obtain ⟨g6, g7, g8⟩ := hx W6 hW6
    rw [← hW6]
    clear hW6 hx
    obtain ⟨⟨a0, a1, a2, a3, a4, a5⟩, fz⟩ := cells6 g6
    have f0 := fz 0
    have f1 := fz 1
    have f2 := fz 2
    have f3 := fz 3
    have f4 := fz 4
    have f5 := fz 5
    have e0 := g7.cell
    have e1 := g7.frozen
    gi_region
    gi_wp2
    exact read_end (r := rp0) rfl rfl g6 g7 g8 ⟨in0, in0, in0, in0, in0⟩ rfl
set_option maxRecDepth 100000 in
set_option maxHeartbeats 4000000 in
theorem read_dn {n : Nat} (t : List Str) (w : World) (M : Nat → Prop) (v : Value) (hv : Rep w M (strs (wDone :: t)) v) (hn : 1 ≤ n) :
    CallsIn Fence.wide n Tryz.prog 47 #[v] w fun e w' => ∃ u, e = .returned u ∧ DVR w' M (retRb rp0 true) u ∧ Below w.heap.size w w' := by
  obtain ⟨b, o, c, rfl, hc, hb, h0, r1, r2⟩ := read_arg hv
  clear r1 r2
  have hd : (wDone == [100, 111, 110, 101]) = true := by decide
  refine callsIn_of_wp_marks Tryz.func47 rfl trivial ?_ rfl
  simp only [Tryz.ntmps47, List.size_toArray, List.length_cons, List.length_nil, Nat.reduceAdd, Nat.reduceSub, Array.replicate_succ, Array.replicate_zero, List.push_toArray, List.append_toArray, List.nil_append, List.cons_append]
  gi_wp2
  refine read_end0 (r := rp0) (ms := .slice none 0 0) rfl rfl ?_ ?_ ?_ ⟨in0, in0, in0, in0, in0⟩ (rep_nil4 rfl)
  · rw [Below.heap_alloc _ _ _ (by simp)]; exact World.alloc_heap_new w _
  · have := World.alloc_heap_new (w.alloc (.cells (rpC rp0 (.slice none 0 0)) 28)) (.cells #[.bool true] 4)
    rwa [World.size_alloc] at this
  · exact ((Below.refl _ _).alloc (Nat.le_refl _) _).alloc (by simp) _
end Go.Proofs.YtgdpogdgpfjnoaaGreatDoor
