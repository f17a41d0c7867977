import Derived.Test.YtnalabphiaholaaDoorGLCNumbersAL
import Derived.Test.YtnalabphiaholaaDoorGLCNumbersAK
set_option linter.all false
namespace Go.Proofs.YtnalabphiaholaaDoor
open Go Go.RowKit Go.Sort Sx
open Go.Lib hiding intOf
abbrev retWr (x : Int × Bool) : DV := .tup [.one (i64 x.1), .one (bol x.2)]
theorem wholeR_short {s : Str} (h : (tl0 s).length < 1 ∨ 19 < (tl0 s).length) : wholeR s = (0, false) := if_pos h
theorem wholeR_none {s : Str} (h : ¬ ((tl0 s).length < 1 ∨ 19 < (tl0 s).length)) (e : decFrom 0 (tl0 s) = none) : wholeR s = (0, false) := by unfold wholeR; rw [if_neg h, e]
theorem wholeR_big {s : Str} {n : Nat} (h : ¬ ((tl0 s).length < 1 ∨ 19 < (tl0 s).length)) (e : decFrom 0 (tl0 s) = some n) (k : 9223372036854775807 < n) : wholeR s = (0, false) := by unfold wholeR; rw [if_neg h, e]; exact if_pos k
theorem wholeR_some {s : Str} {n : Nat} (h : ¬ ((tl0 s).length < 1 ∨ 19 < (tl0 s).length)) (e : decFrom 0 (tl0 s) = some n) (k : ¬ 9223372036854775807 < n) : wholeR s = (if (tl0 s).length < s.length then -(n : Int) else n, decide (itoa (if (tl0 s).length < s.length then -(n : Int) else n) = s)) := by unfold wholeR; rw [if_neg h, e]; exact if_neg k
theorem dec_byte {b : UInt8} {d : Nat} (h : digitVal b = some d) : d ≤ 9 ∧ 48 ≤ b.toNat ∧ b.toNat ≤ 57 ∧ IntKind.u8.wrap ((b.toNat : Int) - 48) = (d : Int) := by
  have h1 := digit_some h
  rw [IntKind.wrap_u8]
  omega
theorem pow_le19 {i : Nat} (h : i ≤ 19) : 10 ^ i ≤ 10000000000000000000 := by
  have : 10 ^ i ≤ 10 ^ 19 := Nat.pow_le_pow_right (by decide) h
  simpa using this
theorem tl0_other {b : UInt8} {r : Str} (h : ¬ b = 45) : tl0 (b :: r) = b :: r := by
  unfold tl0
  split
  · rename_i e; injection e with e _; exact absurd e h
  · rfl
theorem rcWhole_fn (s : Str) (hs : s.length ≤ 1000000) : FnOK Tryd.prog 52 [.one (str s)] (retWr (wholeR s)) := by
  cases s with
  | nil =>
    rw [wholeR_short (.inl (by decide))]
    refine fn_ok (by kernel_rfl) ty_ok Tryd.func52 rfl (fun _ _ => Tryd.call52 _ _) rfl ?_
    intro hw
    clear hw
    repeat' ((conv => whnf); first | (with_reducible first | refine br_t ?_ | refine br_f ?_ | refine za ?_ | refine zg ?_) | refine zsl ?_ | refine zsg ?_ | refine zss ?_ | refine zs1 ?_ | refine zse ?_ | refine zsn ?_ | refine zsc ?_ | (with_reducible first | refine zpa ?_ | refine zqa ?_) | refine zp ?_ | refine zq ?_ | (with_reducible first | refine bc (fun h => ?_) (fun h => ?_) | refine zt ?_ | refine zf ?_ | refine br_i (fun h => ?_) (fun h => ?_)) | refine zg ?_ | refine zi ?_ | refine zb ?_)
    all_goals conv => whnf
    all_goals rfl
  | cons b r =>
    have g0 : (b :: r)[(0 : Int).toNat]? = some b := rfl
    have hln : (b :: r).length = r.length + 1 := rfl
    by_cases hb : b = 45
    · have ht : tl0 (b :: r) = r := by subst hb; rfl
      have hbt : (b.toNat : Int) = 45 := by subst hb; rfl
      have hl0 : (List.drop (Int.toNat 1) (b :: r)).length = r.length := rfl
      by_cases hsh : r.length < 1 ∨ 19 < r.length
      · rw [wholeR_short (by rw [ht]; exact hsh)]
        refine fn_ok (by kernel_rfl) ty_ok Tryd.func52 rfl (fun _ _ => Tryd.call52 _ _) rfl ?_
        intro hw
        clear hw
        rcases hsh with hsh | hsh
        all_goals skip
        repeat' ((conv => whnf); first | (with_reducible first | refine br_t ?_ | refine br_f ?_ | refine za ?_ | refine zg ?_) | refine zsl ?_ | refine zsg ?_ | refine zss ?_ | refine zs1 ?_ | refine zse ?_ | refine zsn ?_ | refine zsc ?_ | (with_reducible first | refine zpa ?_ | refine zqa ?_) | refine zp ?_ | refine zq ?_ | (with_reducible first | refine bc (fun h => ?_) (fun h => ?_) | refine zt ?_ | refine zf ?_ | refine br_i (fun h => ?_) (fun h => ?_)) | refine zg ?_ | refine zi ?_ | refine zb ?_)
        all_goals conv => whnf
        all_goals rfl
      · refine fn_ok (by kernel_rfl) ty_ok Tryd.func52 rfl (fun _ _ => Tryd.call52 _ _) rfl ?_
        intro hw
        clear hw
        have hd1 : 1 ≤ r.length := by omega
        have hd2 : r.length ≤ 19 := by omega
        repeat' ((conv => whnf); first | (with_reducible first | refine br_t ?_ | refine br_f ?_ | refine za ?_ | refine zg ?_) | refine zsl ?_ | refine zsg ?_ | refine zss ?_ | refine zs1 ?_ | refine zse ?_ | refine zsn ?_ | refine zsc ?_ | (with_reducible first | refine zpa ?_ | refine zqa ?_) | refine zp ?_ | refine zq ?_ | (with_reducible first | refine bc (fun h => ?_) (fun h => ?_) | refine zt ?_ | refine zf ?_ | refine br_i (fun h => ?_) (fun h => ?_)) | refine zg ?_ | refine zi ?_ | refine zb ?_)
        refine loop_J (by kernel_rfl) ty_ok (σ := Nat × Nat) (fun q => [(6, sV (.int .i64 (q.1 : Nat))), (5, sV (.int .u64 (q.2 : Nat)))]) (fun _ => []) (fun q => q.1 ≤ r.length ∧ q.2 < 10 ^ q.1 ∧ decFrom q.2 (r.drop q.1) = decFrom 0 r) (fun q => r.length - q.1) (0, 0) ⟨Nat.zero_le _, by decide, rfl⟩ ?_ ?_
        · (conv => whnf); exact zent
        · rintro ⟨i, n⟩ ⟨hi, hn, hR⟩
          simp only at hi hn hR ⊢
          have hp := pow_le19 (i := i) (by omega)
          by_cases hi1 : i = r.length
          · subst hi1
            rw [List.drop_length, decFrom] at hR
            by_cases hbig : 9223372036854775807 < n
            · rw [wholeR_big (by rw [ht]; exact hsh) (by rw [ht]; exact hR.symm) hbig]
              clear hR hn hp
              repeat' ((conv => whnf); first | (with_reducible first | refine br_t ?_ | refine br_f ?_ | refine za ?_ | refine zg ?_) | refine zsl ?_ | refine zsg ?_ | refine zss ?_ | refine zs1 ?_ | refine zse ?_ | refine zsn ?_ | refine zsc ?_ | (with_reducible first | refine zpa ?_ | refine zqa ?_) | refine zp ?_ | refine zq ?_ | (with_reducible first | refine bc (fun h => ?_) (fun h => ?_) | refine zt ?_ | refine zf ?_ | refine br_i (fun h => ?_) (fun h => ?_)) | refine zg ?_ | refine zi ?_ | refine zb ?_)
              all_goals conv => whnf
              all_goals rfl
            · rw [wholeR_some (by rw [ht]; exact hsh) (by rw [ht]; exact hR.symm) hbig, ht, if_pos (show r.length < (b :: r).length by omega)]
              clear hR hn hp
              have ew : IntKind.i64.wrap (n : Int) = (n : Int) := IntWalk.i64_in _ (by omega)
              have ew2 : IntKind.i64.wrap (0 - IntKind.i64.wrap (n : Int)) = -(n : Int) := by rw [ew, IntWalk.i64_in _ (by omega)]; omega
              have Hd := rcDecimal_fn (IntKind.i64.wrap (0 - IntKind.i64.wrap (n : Int))) ⟨by rw [ew2]; omega, by rw [ew2]; omega⟩
              rw [show retWr ((-(n : Int)), decide (itoa (-(n : Int)) = b :: r)) = retWr (IntKind.i64.wrap (0 - IntKind.i64.wrap (n : Int)), decide (itoa (IntKind.i64.wrap (0 - IntKind.i64.wrap (n : Int))) = b :: r)) by rw [ew2]]
              repeat' ((conv => whnf); first | (with_reducible first | refine br_t ?_ | refine br_f ?_ | refine za ?_ | refine zg ?_) | refine zsl ?_ | refine zsg ?_ | refine zss ?_ | refine zs1 ?_ | refine zse ?_ | refine zsn ?_ | refine zsc ?_ | (with_reducible first | refine zpa ?_ | refine zqa ?_) | refine zp ?_ | refine zq ?_ | (with_reducible first | refine bc (fun h => ?_) (fun h => ?_) | refine zt ?_ | refine zf ?_ | refine br_i (fun h => ?_) (fun h => ?_)) | refine zg ?_ | refine zi ?_ | refine zb ?_)
              all_goals conv => whnf
              all_goals rfl
          · have hi2 : i < r.length := by omega
            obtain ⟨c, hc⟩ : ∃ c, r[i]? = some c := ⟨_, List.getElem?_eq_getElem hi2⟩
            have hg : r[(i : Int).toNat]? = some c := by rw [Int.toNat_natCast]; exact hc
            have hgr : (List.drop (Int.toNat 1) (b :: r))[(i : Int).toNat]? = some c := hg
            have hdr : r.drop i = c :: r.drop (i + 1) := by rw [List.drop_eq_getElem_cons hi2, (List.getElem?_eq_some_iff.1 hc).2]
            rw [hdr, decFrom] at hR
            cases hv : digitVal c with
            | none =>
              rw [hv] at hR
              rw [wholeR_none (by rw [ht]; exact hsh) (by rw [ht]; exact hR.symm)]
              have hno := digit_no hv
              clear hR hn hp
              repeat' ((conv => whnf); first | (with_reducible first | refine br_t ?_ | refine br_f ?_ | refine za ?_ | refine zg ?_) | refine zsl ?_ | refine zsg ?_ | refine zss ?_ | refine zs1 ?_ | refine zse ?_ | refine zsn ?_ | refine zsc ?_ | (with_reducible first | refine zpa ?_ | refine zqa ?_) | refine zp ?_ | refine zq ?_ | (with_reducible first | refine bc (fun h => ?_) (fun h => ?_) | refine zt ?_ | refine zf ?_ | refine br_i (fun h => ?_) (fun h => ?_)) | refine zg ?_ | refine zi ?_ | refine zb ?_)
              all_goals conv => whnf
              all_goals rfl
            | some d =>
              rw [hv] at hR
              dsimp only at hR
              rw [Nat.mul_comm n 10] at hR
              obtain ⟨e1, e2, e3, e4⟩ := dec_byte hv
              have hp1 := pow_le19 (i := i + 1) (by omega)
              have hn1 : 10 * n + d < 10 ^ (i + 1) := by rw [Nat.pow_succ]; omega
              have ew : IntKind.u64.wrap (IntKind.u64.wrap (10 * (n : Int)) + IntKind.u64.wrap (IntKind.u8.wrap ((c.toNat : Int) - 48))) = ((10 * n + d : Nat) : Int) := by
                rw [e4, IntWalk.u64_in (10 * (n : Int)) (by omega), IntWalk.u64_in (d : Int) (by omega), IntWalk.u64_in _ (by omega)]; omega
              clear hp hn e4
              repeat' ((conv => whnf); first | (with_reducible first | refine br_t ?_ | refine br_f ?_ | refine za ?_ | refine zg ?_) | refine zsl ?_ | refine zsg ?_ | refine zss ?_ | refine zs1 ?_ | refine zse ?_ | refine zsn ?_ | refine zsc ?_ | (with_reducible first | refine zpa ?_ | refine zqa ?_) | refine zp ?_ | refine zq ?_ | (with_reducible first | refine bc (fun h => ?_) (fun h => ?_) | refine zt ?_ | refine zf ?_ | refine br_i (fun h => ?_) (fun h => ?_)) | refine zg ?_ | refine zi ?_ | refine zb ?_)
              all_goals conv => whnf
              refine ⟨(i + 1, 10 * n + d), ⟨by simp only; omega, hn1, hR⟩, ?_, by simp only; omega⟩
              simp only
              rw [← ew]
              (conv => whnf); exact zent
    · have ht : tl0 (b :: r) = (b :: r) := tl0_other hb
      have hbt : (b.toNat : Int) ≠ 45 := fun h => hb (by apply UInt8.toNat_inj.1; show b.toNat = 45; omega)
      skip
      by_cases hsh : (b :: r).length < 1 ∨ 19 < (b :: r).length
      · rw [wholeR_short (by rw [ht]; exact hsh)]
        refine fn_ok (by kernel_rfl) ty_ok Tryd.func52 rfl (fun _ _ => Tryd.call52 _ _) rfl ?_
        intro hw
        clear hw
        rcases hsh with hsh | hsh
        all_goals skip
        repeat' ((conv => whnf); first | (with_reducible first | refine br_t ?_ | refine br_f ?_ | refine za ?_ | refine zg ?_) | refine zsl ?_ | refine zsg ?_ | refine zss ?_ | refine zs1 ?_ | refine zse ?_ | refine zsn ?_ | refine zsc ?_ | (with_reducible first | refine zpa ?_ | refine zqa ?_) | refine zp ?_ | refine zq ?_ | (with_reducible first | refine bc (fun h => ?_) (fun h => ?_) | refine zt ?_ | refine zf ?_ | refine br_i (fun h => ?_) (fun h => ?_)) | refine zg ?_ | refine zi ?_ | refine zb ?_)
        all_goals conv => whnf
        all_goals rfl
      · refine fn_ok (by kernel_rfl) ty_ok Tryd.func52 rfl (fun _ _ => Tryd.call52 _ _) rfl ?_
        intro hw
        clear hw
        have hd1 : 1 ≤ (b :: r).length := by omega
        have hd2 : (b :: r).length ≤ 19 := by omega
        repeat' ((conv => whnf); first | (with_reducible first | refine br_t ?_ | refine br_f ?_ | refine za ?_ | refine zg ?_) | refine zsl ?_ | refine zsg ?_ | refine zss ?_ | refine zs1 ?_ | refine zse ?_ | refine zsn ?_ | refine zsc ?_ | (with_reducible first | refine zpa ?_ | refine zqa ?_) | refine zp ?_ | refine zq ?_ | (with_reducible first | refine bc (fun h => ?_) (fun h => ?_) | refine zt ?_ | refine zf ?_ | refine br_i (fun h => ?_) (fun h => ?_)) | refine zg ?_ | refine zi ?_ | refine zb ?_)
        refine loop_J (by kernel_rfl) ty_ok (σ := Nat × Nat) (fun q => [(6, sV (.int .i64 (q.1 : Nat))), (5, sV (.int .u64 (q.2 : Nat)))]) (fun _ => []) (fun q => q.1 ≤ (b :: r).length ∧ q.2 < 10 ^ q.1 ∧ decFrom q.2 ((b :: r).drop q.1) = decFrom 0 (b :: r)) (fun q => (b :: r).length - q.1) (0, 0) ⟨Nat.zero_le _, by decide, rfl⟩ ?_ ?_
        · (conv => whnf); exact zent
        · rintro ⟨i, n⟩ ⟨hi, hn, hR⟩
          simp only at hi hn hR ⊢
          have hp := pow_le19 (i := i) (by omega)
          by_cases hi1 : i = (b :: r).length
          · subst hi1
            rw [List.drop_length, decFrom] at hR
            by_cases hbig : 9223372036854775807 < n
            · rw [wholeR_big (by rw [ht]; exact hsh) (by rw [ht]; exact hR.symm) hbig]
              clear hR hn hp
              repeat' ((conv => whnf); first | (with_reducible first | refine br_t ?_ | refine br_f ?_ | refine za ?_ | refine zg ?_) | refine zsl ?_ | refine zsg ?_ | refine zss ?_ | refine zs1 ?_ | refine zse ?_ | refine zsn ?_ | refine zsc ?_ | (with_reducible first | refine zpa ?_ | refine zqa ?_) | refine zp ?_ | refine zq ?_ | (with_reducible first | refine bc (fun h => ?_) (fun h => ?_) | refine zt ?_ | refine zf ?_ | refine br_i (fun h => ?_) (fun h => ?_)) | refine zg ?_ | refine zi ?_ | refine zb ?_)
              all_goals conv => whnf
              all_goals rfl
            · rw [wholeR_some (by rw [ht]; exact hsh) (by rw [ht]; exact hR.symm) hbig, ht, if_neg (show ¬ (b :: r).length < (b :: r).length by omega)]
              clear hR hn hp
              have ew : IntKind.i64.wrap (n : Int) = (n : Int) := IntWalk.i64_in _ (by omega)
              have ew2 : IntKind.i64.wrap (0 - IntKind.i64.wrap (n : Int)) = -(n : Int) := by rw [ew, IntWalk.i64_in _ (by omega)]; omega
              have Hd := rcDecimal_fn (IntKind.i64.wrap (n : Int)) ⟨by rw [ew]; omega, by rw [ew]; omega⟩
              rw [show retWr ((n : Int), decide (itoa (n : Int) = b :: r)) = retWr (IntKind.i64.wrap (n : Int), decide (itoa (IntKind.i64.wrap (n : Int)) = b :: r)) by rw [ew]]
              repeat' ((conv => whnf); first | (with_reducible first | refine br_t ?_ | refine br_f ?_ | refine za ?_ | refine zg ?_) | refine zsl ?_ | refine zsg ?_ | refine zss ?_ | refine zs1 ?_ | refine zse ?_ | refine zsn ?_ | refine zsc ?_ | (with_reducible first | refine zpa ?_ | refine zqa ?_) | refine zp ?_ | refine zq ?_ | (with_reducible first | refine bc (fun h => ?_) (fun h => ?_) | refine zt ?_ | refine zf ?_ | refine br_i (fun h => ?_) (fun h => ?_)) | refine zg ?_ | refine zi ?_ | refine zb ?_)
              all_goals conv => whnf
              all_goals rfl
          · have hi2 : i < (b :: r).length := by omega
            obtain ⟨c, hc⟩ : ∃ c, (b :: r)[i]? = some c := ⟨_, List.getElem?_eq_getElem hi2⟩
            have hg : (b :: r)[(i : Int).toNat]? = some c := by rw [Int.toNat_natCast]; exact hc
            skip
            have hdr : (b :: r).drop i = c :: (b :: r).drop (i + 1) := by rw [List.drop_eq_getElem_cons hi2, (List.getElem?_eq_some_iff.1 hc).2]
            rw [hdr, decFrom] at hR
            cases hv : digitVal c with
            | none =>
              rw [hv] at hR
              rw [wholeR_none (by rw [ht]; exact hsh) (by rw [ht]; exact hR.symm)]
              have hno := digit_no hv
              clear hR hn hp
              repeat' ((conv => whnf); first | (with_reducible first | refine br_t ?_ | refine br_f ?_ | refine za ?_ | refine zg ?_) | refine zsl ?_ | refine zsg ?_ | refine zss ?_ | refine zs1 ?_ | refine zse ?_ | refine zsn ?_ | refine zsc ?_ | (with_reducible first | refine zpa ?_ | refine zqa ?_) | refine zp ?_ | refine zq ?_ | (with_reducible first | refine bc (fun h => ?_) (fun h => ?_) | refine zt ?_ | refine zf ?_ | refine br_i (fun h => ?_) (fun h => ?_)) | refine zg ?_ | refine zi ?_ | refine zb ?_)
              all_goals conv => whnf
              all_goals rfl
            | some d =>
              rw [hv] at hR
              dsimp only at hR
              rw [Nat.mul_comm n 10] at hR
              obtain ⟨e1, e2, e3, e4⟩ := dec_byte hv
              have hp1 := pow_le19 (i := i + 1) (by omega)
              have hn1 : 10 * n + d < 10 ^ (i + 1) := by rw [Nat.pow_succ]; omega
              have ew : IntKind.u64.wrap (IntKind.u64.wrap (10 * (n : Int)) + IntKind.u64.wrap (IntKind.u8.wrap ((c.toNat : Int) - 48))) = ((10 * n + d : Nat) : Int) := by
                rw [e4, IntWalk.u64_in (10 * (n : Int)) (by omega), IntWalk.u64_in (d : Int) (by omega), IntWalk.u64_in _ (by omega)]; omega
              clear hp hn e4
              repeat' ((conv => whnf); first | (with_reducible first | refine br_t ?_ | refine br_f ?_ | refine za ?_ | refine zg ?_) | refine zsl ?_ | refine zsg ?_ | refine zss ?_ | refine zs1 ?_ | refine zse ?_ | refine zsn ?_ | refine zsc ?_ | (with_reducible first | refine zpa ?_ | refine zqa ?_) | refine zp ?_ | refine zq ?_ | (with_reducible first | refine bc (fun h => ?_) (fun h => ?_) | refine zt ?_ | refine zf ?_ | refine br_i (fun h => ?_) (fun h => ?_)) | refine zg ?_ | refine zi ?_ | refine zb ?_)
              all_goals conv => whnf
              refine ⟨(i + 1, 10 * n + d), ⟨by simp only; omega, hn1, hR⟩, ?_, by simp only; omega⟩
              simp only
              rw [← ew]
              (conv => whnf); exact zent
end Go.Proofs.YtnalabphiaholaaDoor

namespace Go.Proofs.YtnalabphiaholaaDoor
open Go Go.RowKit Go.Sort Sx
open Go.Lib hiding intOf
abbrev i64in (n : Int) : Prop := -9223372036854775808 ≤ n ∧ n ≤ 9223372036854775807
theorem itoa_le {n : Int} (h : i64in n) : (itoa n).length ≤ 21 := by
  have hd : ∀ (j u : Nat), u < 10 ^ (j + 1) → (decDigits u).length ≤ j + 1 := by
    intro j u hu
    rw [decDigits_length]
    revert u
    induction j with
    | zero => intro u hu; rw [nDigits_small (by simpa using hu)]; exact Nat.le_refl _
    | succ j ih2 =>
      intro u hu
      by_cases h10 : u < 10
      · rw [nDigits_small h10]; omega
      · rw [nDigits_big h10]
        have := ih2 (u / 10) (by rw [Nat.pow_succ] at hu; omega)
        omega
  have e : (10 : Nat) ^ (19 + 1) = 100000000000000000000 := by decide
  obtain ⟨h1, h2⟩ := h
  unfold itoa
  split
  · rw [List.length_cons]; have := hd 19 n.natAbs (by omega); omega
  · have := hd 19 n.toNat (by omega); omega
theorem wrtV_le {n d : Int} (h1 : i64in n) (h2 : i64in d) : (wrtV n d).length ≤ 43 := by
  have a := itoa_le h1
  have b := itoa_le h2
  unfold wrtV
  split
  · omega
  · simp only [List.length_append, List.length_cons]; omega
theorem wdR1 {a b : Int} (h : WDCs [.agg [i64 a, i64 b]]) : i64in a ∧ i64in b := ⟨wd_i64.1 h.1.1, wd_i64.1 h.1.2.1⟩
theorem cNumber_fn (n d : Int) : FnOK Tryd.prog 16 [.agg [i64 n, i64 d]] (retS (numV n d)) := by
  have Hc := check_fn n d
  unfold numV
  refine fn_ok (by kernel_rfl) ty_ok Tryd.func16 rfl (fun _ _ => Tryd.call16 _ _) rfl ?_
  intro hw
  obtain ⟨h1, h2⟩ := wdR1 hw
  clear hw
  have l1 := itoa_le h1
  have l2 := itoa_le h2
  by_cases h : chk n d = 0
  · rw [if_pos h]
    rw [h] at Hc
    unfold wrtV
    by_cases h3 : d = 1
    · rw [if_pos h3]
      subst h3
      repeat' ((conv => whnf); first | (with_reducible first | refine br_t ?_ | refine br_f ?_ | refine za ?_ | refine zg ?_) | refine za ?_ fmt_fn | refine zsl ?_ | refine zsg ?_ | refine zss ?_ | refine zs1 ?_ | refine zse ?_ | refine zsn ?_ | refine zsc ?_ | refine zp ?_ | refine zq ?_ | (with_reducible first | refine bc (fun h => ?_) (fun h => ?_) | refine zt ?_ | refine zf ?_ | refine br_i (fun h => ?_) (fun h => ?_)) | refine zg ?_ | refine zi ?_ | refine zb ?_)
      all_goals conv => whnf
      all_goals rfl
    · rw [if_neg h3]
      repeat' ((conv => whnf); first | (with_reducible first | refine br_t ?_ | refine br_f ?_ | refine za ?_ | refine zg ?_) | refine za ?_ fmt_fn | refine zsl ?_ | refine zsg ?_ | refine zss ?_ | refine zs1 ?_ | refine zse ?_ | refine zsn ?_ | refine zsc ?_ | refine zp ?_ | refine zq ?_ | (with_reducible first | refine bc (fun h => ?_) (fun h => ?_) | refine zt ?_ | refine zf ?_ | refine br_i (fun h => ?_) (fun h => ?_)) | refine zg ?_ | refine zi ?_ | refine zb ?_)
      all_goals conv => whnf
      all_goals rfl
  · rw [if_neg h]
    have h8 := (chk_08 n d).resolve_left h
    rw [h8] at Hc
    repeat' ((conv => whnf); first | (with_reducible first | refine br_t ?_ | refine br_f ?_ | refine za ?_ | refine zg ?_) | refine za ?_ fmt_fn | refine zsl ?_ | refine zsg ?_ | refine zss ?_ | refine zs1 ?_ | refine zse ?_ | refine zsn ?_ | refine zsc ?_ | refine zp ?_ | refine zq ?_ | (with_reducible first | refine bc (fun h => ?_) (fun h => ?_) | refine zt ?_ | refine zf ?_ | refine br_i (fun h => ?_) (fun h => ?_)) | refine zg ?_ | refine zi ?_ | refine zb ?_)
    all_goals conv => whnf
    all_goals rfl
theorem pointS_app (p : Int × Int × Int) : ((((itoa p.1 ++ [32]) ++ itoa p.2.1) ++ [32]) ++ itoa p.2.2) = itoa p.1 ++ 32 :: (itoa p.2.1 ++ 32 :: itoa p.2.2) := by simp
theorem cpoint_fn (i a b : Int) : FnOK Tryd.prog 38 [pt i a b] (.c (.one (str (itoa i ++ 32 :: (itoa a ++ 32 :: itoa b))))) := by
  rw [← pointS_app (i, a, b)]
  refine fn_ok (by kernel_rfl) ty_ok Tryd.func38 rfl (fun _ _ => Tryd.call38 _ _) rfl ?_
  intro hw
  have h1 := wd_i64.1 hw.1.1
  have h2 := wd_i64.1 hw.1.2.1
  have h3 := wd_i64.1 hw.1.2.2.1
  clear hw
  have l1 := itoa_le h1
  have l2 := itoa_le h2
  have l3 := itoa_le h3
  repeat' ((conv => whnf); first | (with_reducible first | refine br_t ?_ | refine br_f ?_ | refine za ?_ | refine zg ?_) | (refine za ?_ fmt_fn) | (refine za ?_ ito_fn) | refine zsl ?_ | refine zsg ?_ | refine zss ?_ | refine zs1 ?_ | refine zse ?_ | refine zsn ?_ | refine zsc ?_ | refine zp ?_ | refine zq ?_ | (with_reducible first | refine bc (fun h => ?_) (fun h => ?_) | refine zt ?_ | refine zf ?_ | refine br_i (fun h => ?_) (fun h => ?_)) | refine zg ?_ | refine zi ?_ | refine zb ?_)
  all_goals conv => whnf
  all_goals rfl
abbrev retR3 (x : (Int × Int) × Int) : DV := .tup [.agg [i64 x.1.1, i64 x.1.2], .one (i64 x.2)]
theorem numV_no {n d : Int} (h : ¬ chk n d = 0) : numV n d = ([], 8) := if_neg h
theorem numV_ok {n d : Int} (h : chk n d = 0) : numV n d = (wrtV n d, 0) := if_pos h
theorem backV_yes {s : Str} {n d : Int} (h : chk n d = 0) (e : wrtV n d = s) : backV s n d = ((n, d), 0) := if_pos ⟨h, e⟩
theorem backV_ne {s : Str} {n d : Int} (e : ¬ wrtV n d = s) : backV s n d = ((0, 0), 12) := if_neg fun h => e h.2
theorem backV_nc {s : Str} {n d : Int} (e : ¬ chk n d = 0) : backV s n d = ((0, 0), 12) := if_neg fun h => e h.1
theorem cReadNumber_fn (s : Str) (hs : s.length ≤ 1000000) : FnOK Tryd.prog 18 [.one (str s)] (retR3 (readV s)) := by
  have Hc := @cut_fn s 47 (by omega)
  obtain ⟨k1, k2⟩ := cut1_len 47 s
  have Ha := whole_fn (cut1 47 s).1 (by omega)
  have Hb := whole_fn (cut1 47 s).2.1 (by omega)
  unfold readV
  generalize cut1 47 s = x at *
  obtain ⟨x1, x2, x3⟩ := x
  dsimp only at *
  generalize wholeV x1 = p at *
  generalize wholeV x2 = q at *
  obtain ⟨pn, pb⟩ := p
  obtain ⟨qn, qb⟩ := q
  dsimp only at *
  simp only [retWh] at Ha Hb
  cases x3
  · simp only [Bool.false_eq_true, false_implies, and_true, if_false]
    have Hn := cNumber_fn pn 1
    refine fn_ok (by kernel_rfl) ty_ok Tryd.func18 rfl (fun _ _ => Tryd.call18 _ _) rfl ?_
    intro hw
    clear hw
    cases pb
    · simp only [Bool.false_eq_true, if_false]
      repeat' ((conv => whnf); first | (with_reducible first | refine br_t ?_ | refine br_f ?_ | refine za ?_ | refine zg ?_) | refine zsl ?_ | refine zsg ?_ | refine zss ?_ | refine zs1 ?_ | refine zse ?_ | refine zsn ?_ | refine zsc ?_ | refine zp ?_ | refine zq ?_ | (with_reducible first | refine bc (fun h => ?_) (fun h => ?_) | refine zt ?_ | refine zf ?_ | refine br_i (fun h => ?_) (fun h => ?_)) | refine zg ?_ | refine zi ?_ | refine zb ?_)
      all_goals conv => whnf
      all_goals first | rfl | contradiction
    · simp only [if_true]
      by_cases h : chk pn 1 = 0
      · rw [numV_ok h] at Hn
        simp only [retS] at Hn
        by_cases e : wrtV pn 1 = s
        · rw [backV_yes h e]
          repeat' ((conv => whnf); first | (with_reducible first | refine br_t ?_ | refine br_f ?_ | refine za ?_ | refine zg ?_) | refine zsl ?_ | refine zsg ?_ | refine zss ?_ | refine zs1 ?_ | refine zse ?_ | refine zsn ?_ | refine zsc ?_ | refine zp ?_ | refine zq ?_ | (with_reducible first | refine bc (fun h => ?_) (fun h => ?_) | refine zt ?_ | refine zf ?_ | refine br_i (fun h => ?_) (fun h => ?_)) | refine zg ?_ | refine zi ?_ | refine zb ?_)
          all_goals conv => whnf
          all_goals first | rfl | contradiction
        · rw [backV_ne e]
          repeat' ((conv => whnf); first | (with_reducible first | refine br_t ?_ | refine br_f ?_ | refine za ?_ | refine zg ?_) | refine zsl ?_ | refine zsg ?_ | refine zss ?_ | refine zs1 ?_ | refine zse ?_ | refine zsn ?_ | refine zsc ?_ | refine zp ?_ | refine zq ?_ | (with_reducible first | refine bc (fun h => ?_) (fun h => ?_) | refine zt ?_ | refine zf ?_ | refine br_i (fun h => ?_) (fun h => ?_)) | refine zg ?_ | refine zi ?_ | refine zb ?_)
          all_goals conv => whnf
          all_goals first | rfl | contradiction
      · rw [backV_nc h]
        rw [numV_no h] at Hn
        simp only [retS] at Hn
        repeat' ((conv => whnf); first | (with_reducible first | refine br_t ?_ | refine br_f ?_ | refine za ?_ | refine zg ?_) | refine zsl ?_ | refine zsg ?_ | refine zss ?_ | refine zs1 ?_ | refine zse ?_ | refine zsn ?_ | refine zsc ?_ | refine zp ?_ | refine zq ?_ | (with_reducible first | refine bc (fun h => ?_) (fun h => ?_) | refine zt ?_ | refine zf ?_ | refine br_i (fun h => ?_) (fun h => ?_)) | refine zg ?_ | refine zi ?_ | refine zb ?_)
        all_goals conv => whnf
        all_goals first | rfl | contradiction
  · simp only [true_implies, if_true]
    have Hn := cNumber_fn pn qn
    refine fn_ok (by kernel_rfl) ty_ok Tryd.func18 rfl (fun _ _ => Tryd.call18 _ _) rfl ?_
    intro hw
    clear hw
    cases pb
    · simp only [Bool.false_eq_true, false_and, if_false]
      repeat' ((conv => whnf); first | (with_reducible first | refine br_t ?_ | refine br_f ?_ | refine za ?_ | refine zg ?_) | refine zsl ?_ | refine zsg ?_ | refine zss ?_ | refine zs1 ?_ | refine zse ?_ | refine zsn ?_ | refine zsc ?_ | refine zp ?_ | refine zq ?_ | (with_reducible first | refine bc (fun h => ?_) (fun h => ?_) | refine zt ?_ | refine zf ?_ | refine br_i (fun h => ?_) (fun h => ?_)) | refine zg ?_ | refine zi ?_ | refine zb ?_)
      all_goals conv => whnf
      all_goals first | rfl | contradiction
    · cases qb
      · simp only [Bool.false_eq_true, and_false, if_false]
        repeat' ((conv => whnf); first | (with_reducible first | refine br_t ?_ | refine br_f ?_ | refine za ?_ | refine zg ?_) | refine zsl ?_ | refine zsg ?_ | refine zss ?_ | refine zs1 ?_ | refine zse ?_ | refine zsn ?_ | refine zsc ?_ | refine zp ?_ | refine zq ?_ | (with_reducible first | refine bc (fun h => ?_) (fun h => ?_) | refine zt ?_ | refine zf ?_ | refine br_i (fun h => ?_) (fun h => ?_)) | refine zg ?_ | refine zi ?_ | refine zb ?_)
        all_goals conv => whnf
        all_goals first | rfl | contradiction
      · simp only [and_self, if_true]
        by_cases h : chk pn qn = 0
        · rw [numV_ok h] at Hn
          simp only [retS] at Hn
          by_cases e : wrtV pn qn = s
          · rw [backV_yes h e]
            repeat' ((conv => whnf); first | (with_reducible first | refine br_t ?_ | refine br_f ?_ | refine za ?_ | refine zg ?_) | refine zsl ?_ | refine zsg ?_ | refine zss ?_ | refine zs1 ?_ | refine zse ?_ | refine zsn ?_ | refine zsc ?_ | refine zp ?_ | refine zq ?_ | (with_reducible first | refine bc (fun h => ?_) (fun h => ?_) | refine zt ?_ | refine zf ?_ | refine br_i (fun h => ?_) (fun h => ?_)) | refine zg ?_ | refine zi ?_ | refine zb ?_)
            all_goals conv => whnf
            all_goals first | rfl | contradiction
          · rw [backV_ne e]
            repeat' ((conv => whnf); first | (with_reducible first | refine br_t ?_ | refine br_f ?_ | refine za ?_ | refine zg ?_) | refine zsl ?_ | refine zsg ?_ | refine zss ?_ | refine zs1 ?_ | refine zse ?_ | refine zsn ?_ | refine zsc ?_ | refine zp ?_ | refine zq ?_ | (with_reducible first | refine bc (fun h => ?_) (fun h => ?_) | refine zt ?_ | refine zf ?_ | refine br_i (fun h => ?_) (fun h => ?_)) | refine zg ?_ | refine zi ?_ | refine zb ?_)
            all_goals conv => whnf
            all_goals first | rfl | contradiction
        · rw [backV_nc h]
          rw [numV_no h] at Hn
          simp only [retS] at Hn
          repeat' ((conv => whnf); first | (with_reducible first | refine br_t ?_ | refine br_f ?_ | refine za ?_ | refine zg ?_) | refine zsl ?_ | refine zsg ?_ | refine zss ?_ | refine zs1 ?_ | refine zse ?_ | refine zsn ?_ | refine zsc ?_ | refine zp ?_ | refine zq ?_ | (with_reducible first | refine bc (fun h => ?_) (fun h => ?_) | refine zt ?_ | refine zf ?_ | refine br_i (fun h => ?_) (fun h => ?_)) | refine zg ?_ | refine zi ?_ | refine zb ?_)
          all_goals conv => whnf
          all_goals first | rfl | contradiction
end Go.Proofs.YtnalabphiaholaaDoor

namespace Go.Proofs.YtnalabphiaholaaDoor
open Go Go.RowKit Go.Sort Sx
open Go.Lib hiding intOf
theorem fit_in {n : Int} (h : fitI n) : i64in n := ⟨by have := h.1; omega, h.2⟩
theorem rcwritten_fn {n d : Int} (hn : fitI n) (hd : fitI d) : FnOK Tryd.prog 49 [.agg [i64 n, i64 d]] (.c (.one (str (wrtV n d)))) := by
  have H1 := rcDecimal_fn n hn
  have H2 := rcDecimal_fn d hd
  have l1 := itoa_le (fit_in hn)
  have l2 := itoa_le (fit_in hd)
  unfold wrtV
  refine fn_ok (by kernel_rfl) ty_ok Tryd.func49 rfl (fun _ _ => Tryd.call49 _ _) rfl ?_
  intro hw
  clear hw
  by_cases h : d = 1
  · rw [if_pos h]
    repeat' ((conv => whnf); first | (with_reducible first | refine br_t ?_ | refine br_f ?_ | refine za ?_ | refine zg ?_) | refine zsl ?_ | refine zsg ?_ | refine zss ?_ | refine zs1 ?_ | refine zse ?_ | refine zsn ?_ | refine zsc ?_ | (with_reducible first | refine zpa ?_ | refine zqa ?_) | refine zp ?_ | refine zq ?_ | (with_reducible first | refine bc (fun h => ?_) (fun h => ?_) | refine zt ?_ | refine zf ?_ | refine br_i (fun h => ?_) (fun h => ?_)) | refine zg ?_ | refine zi ?_ | refine zb ?_)
    all_goals conv => whnf
    all_goals rfl
  · rw [if_neg h, show itoa n ++ 47 :: itoa d = (itoa n ++ [47]) ++ itoa d by simp]
    repeat' ((conv => whnf); first | (with_reducible first | refine br_t ?_ | refine br_f ?_ | refine za ?_ | refine zg ?_) | refine zsl ?_ | refine zsg ?_ | refine zss ?_ | refine zs1 ?_ | refine zse ?_ | refine zsn ?_ | refine zsc ?_ | (with_reducible first | refine zpa ?_ | refine zqa ?_) | refine zp ?_ | refine zq ?_ | (with_reducible first | refine bc (fun h => ?_) (fun h => ?_) | refine zt ?_ | refine zf ?_ | refine br_i (fun h => ?_) (fun h => ?_)) | refine zg ?_ | refine zi ?_ | refine zb ?_)
    all_goals conv => whnf
    all_goals rfl
theorem rcNumber_fn (n d : Int) : FnOK Tryd.prog 17 [.agg [i64 n, i64 d]] (retS (numV n d)) := by
  have Hc := rcheck_fn n d
  refine fn_ok (by kernel_rfl) ty_ok Tryd.func17 rfl (fun _ _ => Tryd.call17 _ _) rfl ?_
  intro hw
  obtain ⟨h1, h2⟩ := wdR1 hw
  clear hw
  by_cases h : chk n d = 0
  · rw [numV_ok h]
    obtain ⟨f1, f2⟩ := chk_fit h h1 h2
    have Hw := rcwritten_fn f1 f2
    rw [h] at Hc
    repeat' ((conv => whnf); first | (with_reducible first | refine br_t ?_ | refine br_f ?_ | refine za ?_ | refine zg ?_) | refine zsl ?_ | refine zsg ?_ | refine zss ?_ | refine zs1 ?_ | refine zse ?_ | refine zsn ?_ | refine zsc ?_ | (with_reducible first | refine zpa ?_ | refine zqa ?_) | refine zp ?_ | refine zq ?_ | (with_reducible first | refine bc (fun h => ?_) (fun h => ?_) | refine zt ?_ | refine zf ?_ | refine br_i (fun h => ?_) (fun h => ?_)) | refine zg ?_ | refine zi ?_ | refine zb ?_)
    all_goals conv => whnf
    all_goals rfl
  · rw [numV_no h]
    have h8 := (chk_08 n d).resolve_left h
    rw [h8] at Hc
    repeat' ((conv => whnf); first | (with_reducible first | refine br_t ?_ | refine br_f ?_ | refine za ?_ | refine zg ?_) | refine zsl ?_ | refine zsg ?_ | refine zss ?_ | refine zs1 ?_ | refine zse ?_ | refine zsn ?_ | refine zsc ?_ | (with_reducible first | refine zpa ?_ | refine zqa ?_) | refine zp ?_ | refine zq ?_ | (with_reducible first | refine bc (fun h => ?_) (fun h => ?_) | refine zt ?_ | refine zf ?_ | refine br_i (fun h => ?_) (fun h => ?_)) | refine zg ?_ | refine zi ?_ | refine zb ?_)
    all_goals conv => whnf
    all_goals rfl
theorem cutP_no {s : Str} {i f : Nat} {b c : UInt8} (hb : s[i]? = some b) (hf : f ≤ i) (h : c ∉ (s.take i).drop f) (hne : b ≠ c) : c ∉ (s.take (i + 1)).drop f := by
  obtain ⟨hlt, e⟩ := List.getElem?_eq_some_iff.1 hb
  rw [List.take_succ_eq_append_getElem hlt, List.drop_append_of_le_length (by rw [List.length_take]; omega), e]
  intro k
  rcases List.mem_append.1 k with k | k
  · exact h k
  · exact hne (List.mem_singleton.1 k).symm
theorem cutP_at {s : Str} {i f : Nat} {c : UInt8} (hb : s[i]? = some c) (hf : f ≤ i) (h : c ∉ (s.take i).drop f) : spl c (s.drop f) = (s.take i).drop f :: spl c (s.drop (i + 1)) := by
  obtain ⟨hlt, e⟩ := List.getElem?_eq_some_iff.1 hb
  have : s.drop f = (s.take i).drop f ++ c :: s.drop (i + 1) := by
    have h1 : s = s.take i ++ c :: s.drop (i + 1) := by
      conv => lhs; rw [← List.take_append_drop i s, List.drop_eq_getElem_cons hlt, e]
    conv => lhs; rw [h1]
    rw [List.drop_append_of_le_length (by rw [List.length_take]; omega)]
  rw [this, spl_at _ h]
theorem cutP_end {s : Str} {f : Nat} {c : UInt8} (h : c ∉ (s.take s.length).drop f) : spl c (s.drop f) = [(s.take s.length).drop f] := by
  rw [List.take_length] at h ⊢
  exact spl_no h
theorem rcCut_fn (s : Str) (c : UInt8) (hs : s.length ≤ 100000) : FnOK Tryd.prog 32 [.one (str s), .one (.v (.int .u8 (c.toNat : Int)))] (.c (.one (strs (spl c s)))) := by
  refine fn_ok (by kernel_rfl) (ty_okK [5, 31] [] [] []) Tryd.func32 rfl (fun _ _ => Tryd.call32 _ _) rfl ?_
  intro hw
  clear hw
  repeat' ((conv => whnf); first | (with_reducible first | refine br_t ?_ | refine br_f ?_ | refine za ?_ | refine zg ?_ | refine zo ?_) | refine zsl ?_ | refine zsg ?_ | refine zss ?_ | refine zs1 ?_ | refine zse ?_ | refine zsn ?_ | refine zsc ?_ | (with_reducible first | refine zpa ?_ | refine zqa ?_) | refine zp ?_ | refine zq ?_ | (with_reducible first | refine bc (fun h => ?_) (fun h => ?_) | refine zt ?_ | refine zf ?_ | refine br_i (fun h => ?_) (fun h => ?_)) | refine zg ?_ | refine zi ?_ | refine zb ?_ | refine zl ?_)
  refine loop_J (by kernel_rfl) (ty_okK [5, 31] [] [] []) (σ := Nat × Nat × List Str) (fun q => [(7, sV (.int .i64 (q.1 : Nat))), (6, sV (.int .i64 (q.2.1 : Nat))), (5, .c (.at (.osl 5 0)))]) (fun q => [(5, .row 1 (q.2.2.map fun s => [str s]) 0)]) (fun q => (q.1 ≤ s.length ∧ q.2.1 ≤ q.1 ∧ c ∉ (s.take q.1).drop q.2.1 ∧ q.2.2 ++ spl c (s.drop q.2.1) = spl c s) ∨ (q.1 = s.length + 1 ∧ q.2.1 = s.length + 1 ∧ q.2.2 = spl c s)) (fun q => s.length + 1 - q.1) (0, 0, []) (.inl ⟨Nat.zero_le _, Nat.le_refl _, by simp, rfl⟩) ?_ ?_
  · (conv => whnf); exact zent
  · rintro ⟨i, f, L⟩ hI
    simp only at hI ⊢
    rcases hI with ⟨hi, hf, hno, hL⟩ | ⟨rfl, rfl, rfl⟩
    · have hpl : L.length ≤ 100001 := by
        have h1 := spl_len c s
        have : (L ++ spl c (s.drop f)).length ≤ s.length + 1 := by rw [hL]; exact h1
        rw [List.length_append] at this
        omega
      by_cases hil : i = s.length
      · subst hil
        repeat' ((conv => whnf); first | (with_reducible first | refine br_t ?_ | refine br_f ?_ | refine za ?_ | refine zg ?_ | refine zo ?_) | refine zsl ?_ | refine zsg ?_ | refine zss ?_ | refine zs1 ?_ | refine zse ?_ | refine zsn ?_ | refine zsc ?_ | (with_reducible first | refine zpa ?_ | refine zqa ?_) | refine zp ?_ | refine zq ?_ | (with_reducible first | refine bc (fun h => ?_) (fun h => ?_) | refine zt ?_ | refine zf ?_ | refine br_i (fun h => ?_) (fun h => ?_)) | refine zg ?_ | refine zi ?_ | refine zb ?_ | refine zl ?_)
        all_goals conv => whnf
        refine ⟨(s.length + 1, s.length + 1, L ++ [(s.take s.length).drop f]), .inr ⟨rfl, rfl, ?_⟩, ?_, by simp only; omega⟩
        · simp only
          rw [← hL, cutP_end hno]
        · simp only [List.map_append, List.map_cons, List.map_nil]
          have e1 : IntKind.i64.wrap ((s.length : Int) + 1) = ((s.length + 1 : Nat) : Int) := by rw [IntWalk.i64_in _ (by omega)]; omega
          rw [← e1]
          (conv => whnf); exact zent
      · have hi2 : i < s.length := by omega
        obtain ⟨b, hb⟩ : ∃ b, s[i]? = some b := ⟨_, List.getElem?_eq_getElem hi2⟩
        have hg : s[(i : Int).toNat]? = some b := by rw [Int.toNat_natCast]; exact hb
        by_cases hbc : b = c
        · subst hbc
          repeat' ((conv => whnf); first | (with_reducible first | refine br_t ?_ | refine br_f ?_ | refine za ?_ | refine zg ?_ | refine zo ?_) | refine zsl ?_ | refine zsg ?_ | refine zss ?_ | refine zs1 ?_ | refine zse ?_ | refine zsn ?_ | refine zsc ?_ | (with_reducible first | refine zpa ?_ | refine zqa ?_) | refine zp ?_ | refine zq ?_ | (with_reducible first | refine bc (fun h => ?_) (fun h => ?_) | refine zt ?_ | refine zf ?_ | refine br_i (fun h => ?_) (fun h => ?_)) | refine zg ?_ | refine zi ?_ | refine zb ?_ | refine zl ?_)
          all_goals conv => whnf
          have e1 : IntKind.i64.wrap ((i : Int) + 1) = ((i + 1 : Nat) : Int) := by rw [IntWalk.i64_in _ (by omega)]; omega
          refine ⟨(i + 1, i + 1, L ++ [(s.take i).drop f]), .inl ⟨by simp only; omega, Nat.le_refl _, by simp, ?_⟩, ?_, by simp only; omega⟩
          · simp only
            rw [← hL, cutP_at hb hf hno, List.append_assoc]; rfl
          · simp only [List.map_append, List.map_cons, List.map_nil]
            rw [← e1]
            (conv => whnf); exact zent
        · have hbn : (b.toNat : Int) ≠ (c.toNat : Int) := fun h => hbc (UInt8.toNat_inj.1 (by omega))
          repeat' ((conv => whnf); first | (with_reducible first | refine br_t ?_ | refine br_f ?_ | refine za ?_ | refine zg ?_ | refine zo ?_) | refine zsl ?_ | refine zsg ?_ | refine zss ?_ | refine zs1 ?_ | refine zse ?_ | refine zsn ?_ | refine zsc ?_ | (with_reducible first | refine zpa ?_ | refine zqa ?_) | refine zp ?_ | refine zq ?_ | (with_reducible first | refine bc (fun h => ?_) (fun h => ?_) | refine zt ?_ | refine zf ?_ | refine br_i (fun h => ?_) (fun h => ?_)) | refine zg ?_ | refine zi ?_ | refine zb ?_ | refine zl ?_)
          all_goals conv => whnf
          have e1 : IntKind.i64.wrap ((i : Int) + 1) = ((i + 1 : Nat) : Int) := by rw [IntWalk.i64_in _ (by omega)]; omega
          refine ⟨(i + 1, f, L), .inl ⟨by simp only; omega, by simp only; omega, cutP_no hb hf hno hbc, hL⟩, ?_, by simp only; omega⟩
          simp only
          rw [← e1]
          (conv => whnf); exact zent
    · repeat' ((conv => whnf); first | (with_reducible first | refine br_t ?_ | refine br_f ?_ | refine za ?_ | refine zg ?_ | refine zo ?_) | refine zsl ?_ | refine zsg ?_ | refine zss ?_ | refine zs1 ?_ | refine zse ?_ | refine zsn ?_ | refine zsc ?_ | (with_reducible first | refine zpa ?_ | refine zqa ?_) | refine zp ?_ | refine zq ?_ | (with_reducible first | refine bc (fun h => ?_) (fun h => ?_) | refine zt ?_ | refine zf ?_ | refine br_i (fun h => ?_) (fun h => ?_)) | refine zg ?_ | refine zi ?_ | refine zb ?_ | refine zl ?_)
      all_goals conv => whnf
      all_goals rfl
end Go.Proofs.YtnalabphiaholaaDoor

namespace Go.Proofs.YtnalabphiaholaaDoor
open Go Go.RowKit Go.Sort Sx
open Go.Lib hiding intOf
abbrev retPo (x : Option (Int × Int × Int)) : DV := match x with | some p => .tup [pt p.1 p.2.1 p.2.2, .one (bol true)] | none => .tup [pt 0 0 0, .one (bol false)]
def rd3 (wh : Str → Int × Bool) : List Str → Option (Int × Int × Int)
  | [a, b, c] => if (wh a).2 = true ∧ (wh b).2 = true ∧ (wh c).2 = true then some ((wh a).1, (wh b).1, (wh c).1) else none
  | _ => none
theorem rd3_len {wh : Str → Int × Bool} : ∀ {l : List Str}, l.length ≠ 3 → rd3 wh l = none
  | [], _ => rfl
  | [_], _ => rfl
  | [_, _], _ => rfl
  | [_, _, _], h => absurd rfl h
  | _ :: _ :: _ :: _ :: _, _ => rfl
theorem creadPoint_fn (l : List Str) (hl : l.length ≤ 1000000) (hs : ∀ x ∈ l, x.length ≤ 1000000) : FnOK Tryd.prog 44 [.one (strs l)] (retPo (rd3 wholeV l)) := by
  by_cases h3 : l.length = 3
  · match l, h3, hs with
    | [a, b, c], _, hs =>
      have Ha := whole_fn a (hs a (by simp))
      have Hb := whole_fn b (hs b (by simp))
      have Hc := whole_fn c (hs c (by simp))
      unfold rd3
      dsimp only
      generalize wholeV a = p at *
      generalize wholeV b = q at *
      generalize wholeV c = r at *
      obtain ⟨pn, pb⟩ := p
      obtain ⟨qn, qb⟩ := q
      obtain ⟨rn, rb⟩ := r
      simp only [retWh] at Ha Hb Hc
      dsimp only
      have he : ([a, b, c].map fun s => [str s]).length = 3 := rfl
      have g0 : ([a, b, c].map fun s => [str s])[(0 : Int).toNat]? = some [str a] := rfl
      have w1 : IntKind.i64.wrap (0 + 1) = 1 := by decide
      have w2 : IntKind.i64.wrap (IntKind.i64.wrap (0 + 1) + 1) = 2 := by decide
      have w3 : IntKind.i64.wrap (IntKind.i64.wrap (IntKind.i64.wrap (0 + 1) + 1) + 1) = 3 := by decide
      have g1 : ([a, b, c].map fun s => [str s])[(IntKind.i64.wrap (0 + 1)).toNat]? = some [str b] := by rw [w1]; rfl
      have g2 : ([a, b, c].map fun s => [str s])[(IntKind.i64.wrap (IntKind.i64.wrap (0 + 1) + 1)).toNat]? = some [str c] := by rw [w2]; rfl
      refine fn_ok (by kernel_rfl) ty_ok Tryd.func44 rfl (fun _ _ => Tryd.call44 _ _) rfl ?_
      intro hw
      clear hw
      repeat' ((conv => whnf); first | (with_reducible first | refine br_t ?_ | refine br_f ?_ | refine za ?_ | refine zg ?_) | refine zsl ?_ | refine zsg ?_ | refine zss ?_ | refine zs1 ?_ | refine zse ?_ | refine zsn ?_ | refine zsc ?_ | refine zp ?_ | refine zq ?_ | (with_reducible first | refine bc (fun h => ?_) (fun h => ?_) | refine zt ?_ | refine zf ?_ | refine br_i (fun h => ?_) (fun h => ?_)) | refine zg ?_ | refine zi ?_ | refine zb ?_)
      refine loop_rounds 4 ?_
      refine rounds_step [2, 4] (by kernel_rfl) ty_ok ?_
      cases pb
      · rw [if_neg (by simp)]
        repeat' ((conv => whnf); first | (with_reducible first | refine br_t ?_ | refine br_f ?_ | refine za ?_ | refine zg ?_) | refine zsl ?_ | refine zsg ?_ | refine zss ?_ | refine zs1 ?_ | refine zse ?_ | refine zsn ?_ | refine zsc ?_ | refine zp ?_ | refine zq ?_ | (with_reducible first | refine bc (fun h => ?_) (fun h => ?_) | refine zt ?_ | refine zf ?_ | refine br_i (fun h => ?_) (fun h => ?_)) | refine zg ?_ | refine zi ?_ | refine zb ?_)
        all_goals conv => whnf
        all_goals rfl
      repeat' ((conv => whnf); first | (with_reducible first | refine br_t ?_ | refine br_f ?_ | refine za ?_ | refine zg ?_) | refine zsl ?_ | refine zsg ?_ | refine zss ?_ | refine zs1 ?_ | refine zse ?_ | refine zsn ?_ | refine zsc ?_ | refine zp ?_ | refine zq ?_ | (with_reducible first | refine bc (fun h => ?_) (fun h => ?_) | refine zt ?_ | refine zf ?_ | refine br_i (fun h => ?_) (fun h => ?_)) | refine zg ?_ | refine zi ?_ | refine zb ?_)
      refine rounds_step [2, 4] (by kernel_rfl) ty_ok ?_
      cases qb
      · rw [if_neg (by simp)]
        repeat' ((conv => whnf); first | (with_reducible first | refine br_t ?_ | refine br_f ?_ | refine za ?_ | refine zg ?_) | refine zsl ?_ | refine zsg ?_ | refine zss ?_ | refine zs1 ?_ | refine zse ?_ | refine zsn ?_ | refine zsc ?_ | refine zp ?_ | refine zq ?_ | (with_reducible first | refine bc (fun h => ?_) (fun h => ?_) | refine zt ?_ | refine zf ?_ | refine br_i (fun h => ?_) (fun h => ?_)) | refine zg ?_ | refine zi ?_ | refine zb ?_)
        all_goals conv => whnf
        all_goals rfl
      repeat' ((conv => whnf); first | (with_reducible first | refine br_t ?_ | refine br_f ?_ | refine za ?_ | refine zg ?_) | refine zsl ?_ | refine zsg ?_ | refine zss ?_ | refine zs1 ?_ | refine zse ?_ | refine zsn ?_ | refine zsc ?_ | refine zp ?_ | refine zq ?_ | (with_reducible first | refine bc (fun h => ?_) (fun h => ?_) | refine zt ?_ | refine zf ?_ | refine br_i (fun h => ?_) (fun h => ?_)) | refine zg ?_ | refine zi ?_ | refine zb ?_)
      refine rounds_step [2, 4] (by kernel_rfl) ty_ok ?_
      cases rb
      · rw [if_neg (by simp)]
        repeat' ((conv => whnf); first | (with_reducible first | refine br_t ?_ | refine br_f ?_ | refine za ?_ | refine zg ?_) | refine zsl ?_ | refine zsg ?_ | refine zss ?_ | refine zs1 ?_ | refine zse ?_ | refine zsn ?_ | refine zsc ?_ | refine zp ?_ | refine zq ?_ | (with_reducible first | refine bc (fun h => ?_) (fun h => ?_) | refine zt ?_ | refine zf ?_ | refine br_i (fun h => ?_) (fun h => ?_)) | refine zg ?_ | refine zi ?_ | refine zb ?_)
        all_goals conv => whnf
        all_goals rfl
      rw [if_pos ⟨rfl, rfl, rfl⟩]
      repeat' ((conv => whnf); first | (with_reducible first | refine br_t ?_ | refine br_f ?_ | refine za ?_ | refine zg ?_) | refine zsl ?_ | refine zsg ?_ | refine zss ?_ | refine zs1 ?_ | refine zse ?_ | refine zsn ?_ | refine zsc ?_ | refine zp ?_ | refine zq ?_ | (with_reducible first | refine bc (fun h => ?_) (fun h => ?_) | refine zt ?_ | refine zf ?_ | refine br_i (fun h => ?_) (fun h => ?_)) | refine zg ?_ | refine zi ?_ | refine zb ?_)
      refine rounds_step [2, 4] (by kernel_rfl) ty_ok ?_
      repeat' ((conv => whnf); first | (with_reducible first | refine br_t ?_ | refine br_f ?_ | refine za ?_ | refine zg ?_) | refine zsl ?_ | refine zsg ?_ | refine zss ?_ | refine zs1 ?_ | refine zse ?_ | refine zsn ?_ | refine zsc ?_ | refine zp ?_ | refine zq ?_ | (with_reducible first | refine bc (fun h => ?_) (fun h => ?_) | refine zt ?_ | refine zf ?_ | refine br_i (fun h => ?_) (fun h => ?_)) | refine zg ?_ | refine zi ?_ | refine zb ?_)
      all_goals conv => whnf
      all_goals rfl
  · rw [rd3_len h3]
    have e : (l.map fun s => [str s]).length = l.length := List.length_map ..
    refine fn_ok (by kernel_rfl) ty_ok Tryd.func44 rfl (fun _ _ => Tryd.call44 _ _) rfl ?_
    intro hw
    clear hw
    repeat' ((conv => whnf); first | (with_reducible first | refine br_t ?_ | refine br_f ?_ | refine za ?_ | refine zg ?_) | refine zsl ?_ | refine zsg ?_ | refine zss ?_ | refine zs1 ?_ | refine zse ?_ | refine zsn ?_ | refine zsc ?_ | refine zp ?_ | refine zq ?_ | (with_reducible first | refine bc (fun h => ?_) (fun h => ?_) | refine zt ?_ | refine zf ?_ | refine br_i (fun h => ?_) (fun h => ?_)) | refine zg ?_ | refine zi ?_ | refine zb ?_)
    all_goals conv => whnf
    all_goals rfl
end Go.Proofs.YtnalabphiaholaaDoor

namespace Go.Proofs.YtnalabphiaholaaDoor
open Go Go.RowKit Go.Sort Sx
open Go.Lib hiding intOf
theorem back_cases (s : Str) (n d : Int) : (chk n d = 0 ∧ wrtV n d = s ∧ backV s n d = ((n, d), 0)) ∨ (chk n d = 0 ∧ wrtV n d ≠ s ∧ backV s n d = ((0, 0), 12)) ∨ (chk n d = 8 ∧ backV s n d = ((0, 0), 12)) := by
  by_cases h : chk n d = 0
  · by_cases e : wrtV n d = s
    · exact .inl ⟨h, e, backV_yes h e⟩
    · exact .inr (.inl ⟨h, e, backV_ne e⟩)
  · exact .inr (.inr ⟨(chk_08 n d).resolve_left h, backV_nc h⟩)
theorem fit1 : fitI 1 := ⟨by decide, by decide⟩
theorem rcReadNumber_fn (s : Str) (hs : s.length ≤ 100000) : FnOK Tryd.prog 19 [.one (str s)] (retR3 (readR s)) := by
  have Hs : FnOK Tryd.prog 32 [.one (str s), .one (.v (.int .u8 47))] (.c (.one (strs (spl 47 s)))) := rcCut_fn s 47 hs
  have hl2 := spl_each 47 s
  unfold readR
  cases hL : spl 47 s with
  | nil => exact absurd hL (spl_ne 47 s)
  | cons w0 t =>
    rw [hL] at Hs hl2
    have Ha := rcWhole_fn w0 (Nat.le_trans (hl2 w0 (by simp)) (by omega))
    have hfa : (wholeR w0).2 = true → fitI (wholeR w0).1 := fun h => (wholeR_ok h).1
    have gl : ((w0 :: t).map fun s => [str s]).length = t.length + 1 := by simp
    have g0 : ((w0 :: t).map fun s => [str s])[(0 : Int).toNat]? = some [str w0] := rfl
    simp only [List.getElem?_cons_zero, Option.getD_some, List.length_cons]
    generalize wholeR w0 = p at *
    obtain ⟨pn, pb⟩ := p
    simp only [retWr] at Ha hfa ⊢
    cases t with
    | nil =>
      have gl : ([w0].map fun s => [str s]).length = 1 := rfl
      simp only [List.length_nil, Nat.zero_add, Nat.lt_irrefl, false_implies, and_true, if_false]
      refine fn_ok (by kernel_rfl) ty_ok Tryd.func19 rfl (fun _ _ => Tryd.call19 _ _) rfl ?_
      intro hw
      clear hw
      cases pb
      · rw [if_neg (by decide)]
        repeat' ((conv => whnf); first | (with_reducible first | refine br_t ?_ | refine br_f ?_ | refine za ?_ | refine zg ?_) | refine zsl ?_ | refine zsg ?_ | refine zss ?_ | refine zs1 ?_ | refine zse ?_ | refine zsn ?_ | refine zsc ?_ | (with_reducible first | refine zpa ?_ | refine zqa ?_) | refine zp ?_ | refine zq ?_ | (with_reducible first | refine bc (fun h => ?_) (fun h => ?_) | refine zt ?_ | refine zf ?_ | refine br_i (fun h => ?_) (fun h => ?_)) | refine zg ?_ | refine zi ?_ | refine zb ?_)
        all_goals conv => whnf
        all_goals rfl
      · rw [if_pos rfl]
        have Hn := rcwritten_fn (hfa rfl) fit1
        have Hc := rcheck_fn pn 1
        rcases back_cases s pn 1 with ⟨h, e, b⟩ | ⟨h, e, b⟩ | ⟨h, b⟩
        all_goals rw [h] at Hc
        all_goals rw [b]
        all_goals clear h b
        repeat' ((conv => whnf); first | (with_reducible first | refine br_t ?_ | refine br_f ?_ | refine za ?_ | refine zg ?_) | refine zsl ?_ | refine zsg ?_ | refine zss ?_ | refine zs1 ?_ | refine zse ?_ | refine zsn ?_ | refine zsc ?_ | (with_reducible first | refine zpa ?_ | refine zqa ?_) | refine zp ?_ | refine zq ?_ | (with_reducible first | refine bc (fun h => ?_) (fun h => ?_) | refine zt ?_ | refine zf ?_ | refine br_i (fun h => ?_) (fun h => ?_)) | refine zg ?_ | refine zi ?_ | refine zb ?_)
        all_goals conv => whnf
        all_goals first | rfl | contradiction
    | cons w1 t =>
      have Hb := rcWhole_fn w1 (Nat.le_trans (hl2 w1 (by simp)) (by omega))
      have hfb : (wholeR w1).2 = true → fitI (wholeR w1).1 := fun h => (wholeR_ok h).1
      have g1 : ((w0 :: w1 :: t).map fun s => [str s])[(1 : Int).toNat]? = some [str w1] := rfl
      rw [List.length_cons] at gl
      simp only [List.length_cons, List.getElem?_cons_succ, List.getElem?_cons_zero, Option.getD_some, show 1 < t.length + 1 + 1 from by omega, true_implies, if_true]
      generalize wholeR w1 = q at *
      obtain ⟨qn, qb⟩ := q
      simp only [retWr] at Hb hfb ⊢
      refine fn_ok (by kernel_rfl) ty_ok Tryd.func19 rfl (fun _ _ => Tryd.call19 _ _) rfl ?_
      intro hw
      clear hw
      cases pb
      · rw [if_neg (by simp)]
        repeat' ((conv => whnf); first | (with_reducible first | refine br_t ?_ | refine br_f ?_ | refine za ?_ | refine zg ?_) | refine zsl ?_ | refine zsg ?_ | refine zss ?_ | refine zs1 ?_ | refine zse ?_ | refine zsn ?_ | refine zsc ?_ | (with_reducible first | refine zpa ?_ | refine zqa ?_) | refine zp ?_ | refine zq ?_ | (with_reducible first | refine bc (fun h => ?_) (fun h => ?_) | refine zt ?_ | refine zf ?_ | refine br_i (fun h => ?_) (fun h => ?_)) | refine zg ?_ | refine zi ?_ | refine zb ?_)
        all_goals conv => whnf
        all_goals rfl
      · cases qb
        · rw [if_neg (by simp)]
          repeat' ((conv => whnf); first | (with_reducible first | refine br_t ?_ | refine br_f ?_ | refine za ?_ | refine zg ?_) | refine zsl ?_ | refine zsg ?_ | refine zss ?_ | refine zs1 ?_ | refine zse ?_ | refine zsn ?_ | refine zsc ?_ | (with_reducible first | refine zpa ?_ | refine zqa ?_) | refine zp ?_ | refine zq ?_ | (with_reducible first | refine bc (fun h => ?_) (fun h => ?_) | refine zt ?_ | refine zf ?_ | refine br_i (fun h => ?_) (fun h => ?_)) | refine zg ?_ | refine zi ?_ | refine zb ?_)
          all_goals conv => whnf
          all_goals rfl
        · rw [if_pos ⟨rfl, rfl⟩]
          have Hn := rcwritten_fn (hfa rfl) (hfb rfl)
          have Hc := rcheck_fn pn qn
          rcases back_cases s pn qn with ⟨h, e, b⟩ | ⟨h, e, b⟩ | ⟨h, b⟩
          all_goals rw [h] at Hc
          all_goals rw [b]
          all_goals clear h b
          repeat' ((conv => whnf); first | (with_reducible first | refine br_t ?_ | refine br_f ?_ | refine za ?_ | refine zg ?_) | refine zsl ?_ | refine zsg ?_ | refine zss ?_ | refine zs1 ?_ | refine zse ?_ | refine zsn ?_ | refine zsc ?_ | (with_reducible first | refine zpa ?_ | refine zqa ?_) | refine zp ?_ | refine zq ?_ | (with_reducible first | refine bc (fun h => ?_) (fun h => ?_) | refine zt ?_ | refine zf ?_ | refine br_i (fun h => ?_) (fun h => ?_)) | refine zg ?_ | refine zi ?_ | refine zb ?_)
          all_goals conv => whnf
          all_goals first | rfl | contradiction
theorem rcpoint_fn {i a b : Int} (h1 : fitI i) (h2 : fitI a) (h3 : fitI b) : FnOK Tryd.prog 67 [pt i a b] (.c (.one (str (itoa i ++ 32 :: (itoa a ++ 32 :: itoa b))))) := by
  rw [← pointS_app (i, a, b)]
  have H1 := rcDecimal_fn i h1
  have H2 := rcDecimal_fn a h2
  have H3 := rcDecimal_fn b h3
  have e : IntKind.i64.wrap i = i := IntWalk.i64_in _ (by have := h1.1; have := h1.2; omega)
  have l1 := itoa_le (fit_in h1)
  have l2 := itoa_le (fit_in h2)
  have l3 := itoa_le (fit_in h3)
  have H0 : FnOK Tryd.prog 75 [.one (i64 (IntKind.i64.wrap i))] (.c (.one (str (itoa i)))) := by rw [e]; exact H1
  refine fn_ok (by kernel_rfl) ty_ok Tryd.func67 rfl (fun _ _ => Tryd.call67 _ _) rfl ?_
  intro hw
  clear hw
  repeat' ((conv => whnf); first | (with_reducible first | refine br_t ?_ | refine br_f ?_ | refine za ?_ | refine zg ?_) | refine zsl ?_ | refine zsg ?_ | refine zss ?_ | refine zs1 ?_ | refine zse ?_ | refine zsn ?_ | refine zsc ?_ | (with_reducible first | refine zpa ?_ | refine zqa ?_) | refine zp ?_ | refine zq ?_ | (with_reducible first | refine bc (fun h => ?_) (fun h => ?_) | refine zt ?_ | refine zf ?_ | refine br_i (fun h => ?_) (fun h => ?_)) | refine zg ?_ | refine zi ?_ | refine zb ?_)
  all_goals conv => whnf
  all_goals rfl
def rd3R (w : List Str) : Option (Int × Int × Int) := match rd3 wholeR w with | some p => if 0 ≤ p.1 ∧ p.1 ≤ 65535 then some p else none | none => none
theorem rcpoints_fn (l : List Str) (hl : l.length ≤ 1000000) (hs : ∀ x ∈ l, x.length ≤ 1000000) : FnOK Tryd.prog 45 [.one (strs l)] (retPo (rd3R l)) := by
  by_cases h3 : l.length = 3
  · match l, h3, hs with
    | [a, b, c], _, hs =>
      have Ha := rcWhole_fn a (hs a (by simp))
      have Hb := rcWhole_fn b (hs b (by simp))
      have Hc := rcWhole_fn c (hs c (by simp))
      unfold rd3R rd3
      dsimp only
      generalize wholeR a = p at *
      generalize wholeR b = q at *
      generalize wholeR c = r at *
      obtain ⟨pn, pb⟩ := p
      obtain ⟨qn, qb⟩ := q
      obtain ⟨rn, rb⟩ := r
      simp only [retWr] at Ha Hb Hc
      dsimp only
      have he : ([a, b, c].map fun s => [str s]).length = 3 := rfl
      have g0 : ([a, b, c].map fun s => [str s])[(0 : Int).toNat]? = some [str a] := rfl
      have g1 : ([a, b, c].map fun s => [str s])[(1 : Int).toNat]? = some [str b] := rfl
      have g2 : ([a, b, c].map fun s => [str s])[(2 : Int).toNat]? = some [str c] := rfl
      refine fn_ok (by kernel_rfl) ty_ok Tryd.func45 rfl (fun _ _ => Tryd.call45 _ _) rfl ?_
      intro hw
      clear hw
      by_cases hall : pb = true ∧ qb = true ∧ rb = true
      · obtain ⟨rfl, rfl, rfl⟩ := hall
        rw [if_pos ⟨rfl, rfl, rfl⟩]
        dsimp only
        by_cases hr : 0 ≤ pn ∧ pn ≤ 65535
        · rw [if_pos hr]
          repeat' ((conv => whnf); first | (with_reducible first | refine br_t ?_ | refine br_f ?_ | refine za ?_ | refine zg ?_) | refine zsl ?_ | refine zsg ?_ | refine zss ?_ | refine zs1 ?_ | refine zse ?_ | refine zsn ?_ | refine zsc ?_ | (with_reducible first | refine zpa ?_ | refine zqa ?_) | refine zp ?_ | refine zq ?_ | (with_reducible first | refine bc (fun h => ?_) (fun h => ?_) | refine zt ?_ | refine zf ?_ | refine br_i (fun h => ?_) (fun h => ?_)) | refine zg ?_ | refine zi ?_ | refine zb ?_)
          all_goals conv => whnf
          all_goals rfl
        · rw [if_neg hr]
          repeat' ((conv => whnf); first | (with_reducible first | refine br_t ?_ | refine br_f ?_ | refine za ?_ | refine zg ?_) | refine zsl ?_ | refine zsg ?_ | refine zss ?_ | refine zs1 ?_ | refine zse ?_ | refine zsn ?_ | refine zsc ?_ | (with_reducible first | refine zpa ?_ | refine zqa ?_) | refine zp ?_ | refine zq ?_ | (with_reducible first | refine bc (fun h => ?_) (fun h => ?_) | refine zt ?_ | refine zf ?_ | refine br_i (fun h => ?_) (fun h => ?_)) | refine zg ?_ | refine zi ?_ | refine zb ?_)
          all_goals conv => whnf
          all_goals first | rfl | (exfalso; omega)
      · rw [if_neg hall]
        dsimp only
        cases pb
        all_goals cases qb
        all_goals cases rb
        all_goals try (exact absurd ⟨rfl, rfl, rfl⟩ hall)
        all_goals clear hall
        repeat' ((conv => whnf); first | (with_reducible first | refine br_t ?_ | refine br_f ?_ | refine za ?_ | refine zg ?_) | refine zsl ?_ | refine zsg ?_ | refine zss ?_ | refine zs1 ?_ | refine zse ?_ | refine zsn ?_ | refine zsc ?_ | (with_reducible first | refine zpa ?_ | refine zqa ?_) | refine zp ?_ | refine zq ?_ | (with_reducible first | refine bc (fun h => ?_) (fun h => ?_) | refine zt ?_ | refine zf ?_ | refine br_i (fun h => ?_) (fun h => ?_)) | refine zg ?_ | refine zi ?_ | refine zb ?_)
        all_goals conv => whnf
        all_goals rfl
  · rw [show rd3R l = none by unfold rd3R; rw [rd3_len h3]]
    have e : (l.map fun s => [str s]).length = l.length := List.length_map ..
    refine fn_ok (by kernel_rfl) ty_ok Tryd.func45 rfl (fun _ _ => Tryd.call45 _ _) rfl ?_
    intro hw
    clear hw
    repeat' ((conv => whnf); first | (with_reducible first | refine br_t ?_ | refine br_f ?_ | refine za ?_ | refine zg ?_) | refine zsl ?_ | refine zsg ?_ | refine zss ?_ | refine zs1 ?_ | refine zse ?_ | refine zsn ?_ | refine zsc ?_ | (with_reducible first | refine zpa ?_ | refine zqa ?_) | refine zp ?_ | refine zq ?_ | (with_reducible first | refine bc (fun h => ?_) (fun h => ?_) | refine zt ?_ | refine zf ?_ | refine br_i (fun h => ?_) (fun h => ?_)) | refine zg ?_ | refine zi ?_ | refine zb ?_)
    all_goals conv => whnf
    all_goals rfl
end Go.Proofs.YtnalabphiaholaaDoor

namespace Go.Proofs.YtnalabphiaholaaDoor
open Go.RowKit Go.Sort Sx
theorem askd_ok {n d : Int} (h : askd n d = 0) : chk n d = 0 ∧ -1073741824 ≤ n ∧ n ≤ 1073741824 ∧ 1 ≤ d ∧ d ≤ 1024 := by
  unfold askd at h
  split at h
  · rename_i h1; exact absurd h h1
  · rename_i h1
    have h1 : chk n d = 0 := by omega
    have := (chk_iff n d).1 h1
    split at h
    · omega
    · exact ⟨h1, by omega⟩
def dst (p q : Pt) (n m : Int) : Int × Int := (((outQ (qv ((p.a - q.a) * m + (p.b - q.b) * n) m)).1.natAbs : Int), (outQ (qv ((p.a - q.a) * m + (p.b - q.b) * n) m)).2.1)
end Go.Proofs.YtnalabphiaholaaDoor
