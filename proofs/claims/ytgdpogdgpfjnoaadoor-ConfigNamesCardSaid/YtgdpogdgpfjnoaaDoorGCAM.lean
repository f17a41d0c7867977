import Derived.Test.YtgdpogdgpfjnoaaDoorGCAL
import Derived.Test.YtgdpogdgpfjnoaaDoorGCAK
import Derived.Test.YtgdpogdgpfjnoaaDoorGCAJ
import Derived.ScopeJumps
import Derived.WalkMore
import Derived.Lib.Split
import Derived.Lib.Join
import Derived.Lib.CutLaws
import Derived.Laws.BytesString
set_option linter.all false
namespace Go.Proofs.YtgdpogdgpfjnoaaDoor
open Go Go.RowKit Go.Sort Sx
open Go.Lib hiding intOf
theorem fmt_fn {n : Int} : FnOK Tryd.prog 44 [.one (i64 n), .one (i64 10)] (.c (.one (str (itoa n)))) :=
  fn_of_callsG (fun _ _ => Tryd.call44 _ _) rfl rfl (fun _ => .v trivial) (fun h w hg => by
    have hb := wd_i64.1 h.1
    exact (Tryd.strconv_FormatInt_10 n hb.1 hb.2 w hg.tab).mono fun e w' ⟨he, k, os, hw⟩ => ⟨he, by rw [hw]; exact below_regrown w (w.drawn + k) os⟩)
theorem ito_fn {n : Int} : FnOK Tryd.prog 46 [.one (i64 n)] (.c (.one (str (itoa n)))) :=
  fn_of_callsG (fun _ _ => Tryd.call46 _ _) rfl rfl (fun _ => .v trivial) (fun h w hg => by
    have hb := wd_i64.1 h.1
    exact (Tryd.strconv_Itoa n hb.1 hb.2 w hg.tab).mono fun e w' ⟨he, k, os, hw⟩ => ⟨he, by rw [hw]; exact below_regrown w (w.drawn + k) os⟩)
theorem pre_fn {s p : Str} : FnOK Tryd.prog 72 [.one (str s), .one (str p)] (.c (.one (bol (Lib.hasPrefix s p)))) :=
  fn_of_callsG (fun _ _ => Tryd.call72 _ _) rfl rfl (fun _ => .v trivial) (fun h w hg => (Tryd.strings_HasPrefix ⟨s.toArray⟩ ⟨p.toArray⟩ w).mono fun e w' ⟨he, hw⟩ => ⟨he, hw ▸ Below.refl _ _⟩)
def finW (s : Str) (fr : Nat) (R : Option Nat) : Int × Bool := match R with
  | some n => (if fr = 1 then -(n : Int) else n, decide (itoa (if fr = 1 then -(n : Int) else n) = s))
  | none => (0, false)
theorem finW_1 {s : Str} {fr n : Nat} (h : fr = 1) : finW s fr (some n) = (-(n : Int), decide (itoa (-(n : Int)) = s)) := by subst h; rfl
theorem finW_0 {s : Str} {fr n : Nat} (h : fr ≠ 1) : finW s fr (some n) = ((n : Int), decide (itoa (n : Int) = s)) := by unfold finW; dsimp only; rw [if_neg h]
theorem wholeV_fin (s : Str) : wholeV s = finW s (if Lib.hasPrefix s [45] then 1 else 0) (rdP 0 (s.drop (if Lib.hasPrefix s [45] then 1 else 0))) := by
  unfold wholeV Lib.hasPrefix
  split
  · rename_i r
    have e : ([45] : Str).isPrefixOf (45 :: r) = true := rfl
    rw [e]
    simp only [if_true, List.drop_succ_cons, List.drop_zero]
    rfl
  · rename_i h
    have e : ([45] : Str).isPrefixOf s = false := by
      cases s with
      | nil => rfl
      | cons b r =>
        have hb : b ≠ 45 := fun e => h r (by rw [e])
        simp [List.isPrefixOf, Ne.symm hb]
    rw [e]
    rfl
theorem digit_no {b : UInt8} (h : digitVal b = none) : ¬ (48 ≤ b.toNat ∧ b.toNat ≤ 57) := fun k => by
  unfold digitVal at h
  rw [if_pos k] at h; cases h
theorem digit_some {b : UInt8} {d : Nat} (h : digitVal b = some d) : 48 ≤ b.toNat ∧ b.toNat ≤ 57 ∧ d = b.toNat - 48 := digitVal_eq h
theorem byte_no {b : UInt8} (h : digitVal b = none) : IntKind.u8.wrap ((b.toNat : Int) - 48) > 9 := by
  have h1 := digit_no h
  have h2 := b.toNat_lt
  rw [IntKind.wrap_u8]
  omega
theorem byte_some {b : UInt8} {d : Nat} (h : digitVal b = some d) : d ≤ 9 ∧ IntKind.u8.wrap ((b.toNat : Int) - 48) = (d : Int) := by
  have h1 := digit_some h
  rw [IntKind.wrap_u8]
  omega
theorem quo_of {d : Nat} (h : d ≤ 9) : IntKind.i64.wrap ((IntKind.i64.wrap (9223372036854775807 - IntKind.i64.wrap (d : Int))).tdiv 10) = (9223372036854775807 - (d : Int)) / 10 := by
  rw [IntWalk.i64_in (d : Int) (by omega), IntWalk.i64_in (9223372036854775807 - (d : Int)) (by omega), Int.tdiv_eq_ediv_of_nonneg (by omega), IntWalk.i64_in _ (by omega)]
abbrev retWh (x : Int × Bool) : DV := .tup [.one (i64 x.1), .one (bol x.2)]
theorem whole_fn (s : Str) (hs : s.length ≤ 1000000) : FnOK Tryd.prog 54 [.one (str s)] (retWh (wholeV s)) := by
  have hpre := @pre_fn s [45]
  rw [wholeV_fin]
  generalize hp : Lib.hasPrefix s [45] = p at *
  have hfl : (if p = true then 1 else 0) ≤ s.length := by
    cases p with
    | false => exact Nat.zero_le _
    | true =>
      cases s with
      | nil => cases hp
      | cons b r => simp
  have hfr : (if p = true then 1 else 0) = 0 ∨ (if p = true then 1 else 0) = 1 := by cases p <;> simp
  obtain ⟨fr, hfe⟩ : ∃ fr : Nat, fr = if p = true then 1 else 0 := ⟨_, rfl⟩
  rw [← hfe] at hfl hfr ⊢
  generalize hR : rdP 0 (s.drop fr) = R
  have hfm : ∀ n : Int, FnOK Tryd.prog 44 [.one (i64 n), .one (i64 10)] (.c (.one (str (itoa n)))) := fun n => fmt_fn
  refine fn_ok (by kernel_rfl) ty_ok Tryd.func54 rfl (fun _ _ => Tryd.call54 _ _) rfl ?_
  intro hw
  clear hw
  refine scope_J (by kernel_rfl) ty_ok 0 (σ := Nat × Nat) (fun q => [(2, sV (.int .i64 0)), (3, sV (.bool false)), (4, sV (.int .i64 (q.1 : Nat))), (5, sV (.int .i64 (q.2 : Nat))), (6, sV (.int .i64 (fr : Nat)))]) (fun _ => []) (fun q => fr ≤ q.2 ∧ q.2 ≤ s.length ∧ q.1 ≤ 9223372036854775807 ∧ rdP q.1 (s.drop q.2) = R) (fun q => s.length - q.2) rfl ?_ ?_
  · cases p
    · have hfe : fr = 0 := hfe
      subst hfe
      cases hb : s[0]? with
      | none =>
        have hk : 0 = s.length := by
          have := List.getElem?_eq_none_iff.1 hb
          omega
        rw [show s.drop 0 = [] from List.drop_eq_nil_of_le (by omega), rdP] at hR
        subst hR
        have en : IntKind.i64.wrap (0 - 0) = 0 := by rw [IntWalk.i64_in _ (by omega)]; omega
        repeat' ((conv => whnf); first | (with_reducible first | refine br_t ?_ | refine br_f ?_ | refine za ?_ | refine zg ?_) | refine za ?_ fmt_fn | refine zsl ?_ | refine zsg ?_ | refine zss ?_ | refine zs1 ?_ | refine zse ?_ | refine zsn ?_ | refine zsc ?_ | (with_reducible first | refine zpa ?_ | refine zqa ?_) | refine zp ?_ | refine zq ?_ | (with_reducible first | refine bc (fun h => ?_) (fun h => ?_) | refine zt ?_ | refine zf ?_ | refine br_i (fun h => ?_) (fun h => ?_)) | refine zg ?_ | refine zi ?_ | refine zb ?_)
        all_goals conv => whnf
        all_goals (first | (rw [en, finW_1 (by omega)]; rfl) | (rw [finW_0 (by omega)]; rfl))
      | some b =>
        have hk : 0 < s.length := (List.getElem?_eq_some_iff.1 hb).1
        have hg : s[((0 : Int)).toNat]? = some b := by rw [show ((0 : Int)).toNat = 0 from rfl]; exact hb
        have hdr : s.drop 0 = b :: s.drop 1 := by rw [List.drop_eq_getElem_cons hk, (List.getElem?_eq_some_iff.1 hb).2]
        rw [hdr, rdP] at hR
        cases hd : digitVal b with
        | none =>
          rw [hd] at hR
          dsimp only at hR
          subst hR
          have hc := byte_no hd
          repeat' ((conv => whnf); first | (with_reducible first | refine br_t ?_ | refine br_f ?_ | refine za ?_ | refine zg ?_) | refine za ?_ fmt_fn | refine zsl ?_ | refine zsg ?_ | refine zss ?_ | refine zs1 ?_ | refine zse ?_ | refine zsn ?_ | refine zsc ?_ | (with_reducible first | refine zpa ?_ | refine zqa ?_) | refine zp ?_ | refine zq ?_ | (with_reducible first | refine bc (fun h => ?_) (fun h => ?_) | refine zt ?_ | refine zf ?_ | refine br_i (fun h => ?_) (fun h => ?_)) | refine zg ?_ | refine zi ?_ | refine zb ?_)
          all_goals conv => whnf
          all_goals rfl
        | some d =>
          rw [hd] at hR
          simp only [Nat.mul_zero, Nat.zero_add] at hR
          obtain ⟨hd9, hc⟩ := byte_some hd
          have hq := quo_of hd9
          rw [← hc] at hq
          have h4 : d ≤ 9223372036854775807 → IntKind.i64.wrap (IntKind.i64.wrap (10 * 0) + IntKind.i64.wrap (IntKind.u8.wrap ((b.toNat : Int) - 48))) = ((d : Nat) : Int) := fun h => by
            rw [hc, show IntKind.i64.wrap (10 * 0) = 0 from by decide, IntWalk.i64_in (d : Int) (by omega), IntWalk.i64_in _ (by omega)]; omega
          by_cases hle : d ≤ 9223372036854775807
          · rw [if_pos hle] at hR
            have h4 := h4 hle
            repeat' ((conv => whnf); first | (with_reducible first | refine br_t ?_ | refine br_f ?_ | refine za ?_ | refine zg ?_) | refine za ?_ fmt_fn | refine zsl ?_ | refine zsg ?_ | refine zss ?_ | refine zs1 ?_ | refine zse ?_ | refine zsn ?_ | refine zsc ?_ | (with_reducible first | refine zpa ?_ | refine zqa ?_) | refine zp ?_ | refine zq ?_ | (with_reducible first | refine bc (fun h => ?_) (fun h => ?_) | refine zt ?_ | refine zf ?_ | refine br_i (fun h => ?_) (fun h => ?_)) | refine zg ?_ | refine zi ?_ | refine zb ?_)
            all_goals conv => whnf
            refine ⟨(d, 1), ⟨by simp only; omega, by simp only; omega, hle, hR⟩, ?_⟩
            (conv => whnf); exact zent
          · exact absurd (by omega) hle
    · have hfe : fr = 1 := hfe
      subst hfe
      cases hb : s[1]? with
      | none =>
        have hk : 1 = s.length := by
          have := List.getElem?_eq_none_iff.1 hb
          omega
        rw [show s.drop 1 = [] from List.drop_eq_nil_of_le (by omega), rdP] at hR
        subst hR
        have en : IntKind.i64.wrap (0 - 0) = 0 := by rw [IntWalk.i64_in _ (by omega)]; omega
        repeat' ((conv => whnf); first | (with_reducible first | refine br_t ?_ | refine br_f ?_ | refine za ?_ | refine zg ?_) | refine za ?_ fmt_fn | refine zsl ?_ | refine zsg ?_ | refine zss ?_ | refine zs1 ?_ | refine zse ?_ | refine zsn ?_ | refine zsc ?_ | (with_reducible first | refine zpa ?_ | refine zqa ?_) | refine zp ?_ | refine zq ?_ | (with_reducible first | refine bc (fun h => ?_) (fun h => ?_) | refine zt ?_ | refine zf ?_ | refine br_i (fun h => ?_) (fun h => ?_)) | refine zg ?_ | refine zi ?_ | refine zb ?_)
        all_goals conv => whnf
        all_goals (first | (rw [en, finW_1 (by omega)]; rfl) | (rw [finW_0 (by omega)]; rfl))
      | some b =>
        have hk : 1 < s.length := (List.getElem?_eq_some_iff.1 hb).1
        have hg : s[((1 : Int)).toNat]? = some b := by rw [show ((1 : Int)).toNat = 1 from rfl]; exact hb
        have hdr : s.drop 1 = b :: s.drop 2 := by rw [List.drop_eq_getElem_cons hk, (List.getElem?_eq_some_iff.1 hb).2]
        rw [hdr, rdP] at hR
        cases hd : digitVal b with
        | none =>
          rw [hd] at hR
          dsimp only at hR
          subst hR
          have hc := byte_no hd
          repeat' ((conv => whnf); first | (with_reducible first | refine br_t ?_ | refine br_f ?_ | refine za ?_ | refine zg ?_) | refine za ?_ fmt_fn | refine zsl ?_ | refine zsg ?_ | refine zss ?_ | refine zs1 ?_ | refine zse ?_ | refine zsn ?_ | refine zsc ?_ | (with_reducible first | refine zpa ?_ | refine zqa ?_) | refine zp ?_ | refine zq ?_ | (with_reducible first | refine bc (fun h => ?_) (fun h => ?_) | refine zt ?_ | refine zf ?_ | refine br_i (fun h => ?_) (fun h => ?_)) | refine zg ?_ | refine zi ?_ | refine zb ?_)
          all_goals conv => whnf
          all_goals rfl
        | some d =>
          rw [hd] at hR
          simp only [Nat.mul_zero, Nat.zero_add] at hR
          obtain ⟨hd9, hc⟩ := byte_some hd
          have hq := quo_of hd9
          rw [← hc] at hq
          have h4 : d ≤ 9223372036854775807 → IntKind.i64.wrap (IntKind.i64.wrap (10 * 0) + IntKind.i64.wrap (IntKind.u8.wrap ((b.toNat : Int) - 48))) = ((d : Nat) : Int) := fun h => by
            rw [hc, show IntKind.i64.wrap (10 * 0) = 0 from by decide, IntWalk.i64_in (d : Int) (by omega), IntWalk.i64_in _ (by omega)]; omega
          by_cases hle : d ≤ 9223372036854775807
          · rw [if_pos hle] at hR
            have h4 := h4 hle
            repeat' ((conv => whnf); first | (with_reducible first | refine br_t ?_ | refine br_f ?_ | refine za ?_ | refine zg ?_) | refine za ?_ fmt_fn | refine zsl ?_ | refine zsg ?_ | refine zss ?_ | refine zs1 ?_ | refine zse ?_ | refine zsn ?_ | refine zsc ?_ | (with_reducible first | refine zpa ?_ | refine zqa ?_) | refine zp ?_ | refine zq ?_ | (with_reducible first | refine bc (fun h => ?_) (fun h => ?_) | refine zt ?_ | refine zf ?_ | refine br_i (fun h => ?_) (fun h => ?_)) | refine zg ?_ | refine zi ?_ | refine zb ?_)
            all_goals conv => whnf
            refine ⟨(d, 2), ⟨by simp only; omega, by simp only; omega, hle, hR⟩, ?_⟩
            (conv => whnf); exact zent
          · exact absurd (by omega) hle
  · rintro ⟨n, k⟩ ⟨hk1, hk2, hn, hrd⟩
    simp only at hk1 hk2 hn hrd ⊢
    cases hb : s[k]? with
    | none =>
      have hk : k = s.length := by
        have := List.getElem?_eq_none_iff.1 hb
        omega
      subst hk
      rw [List.drop_length, rdP] at hrd
      subst hrd
      have en : IntKind.i64.wrap (0 - (n : Int)) = -(n : Int) := by rw [IntWalk.i64_in _ (by omega)]; omega
      repeat' ((conv => whnf); first | (with_reducible first | refine br_t ?_ | refine br_f ?_ | refine za ?_ | refine zg ?_) | refine za ?_ fmt_fn | refine zsl ?_ | refine zsg ?_ | refine zss ?_ | refine zs1 ?_ | refine zse ?_ | refine zsn ?_ | refine zsc ?_ | (with_reducible first | refine zpa ?_ | refine zqa ?_) | refine zp ?_ | refine zq ?_ | (with_reducible first | refine bc (fun h => ?_) (fun h => ?_) | refine zt ?_ | refine zf ?_ | refine br_i (fun h => ?_) (fun h => ?_)) | refine zg ?_ | refine zi ?_ | refine zb ?_)
      all_goals conv => whnf
      · rw [en, finW_1 (by omega)]
      · rw [finW_0 (by omega)]
    | some b =>
      have hk : k < s.length := (List.getElem?_eq_some_iff.1 hb).1
      have hg : s[(k : Int).toNat]? = some b := by rw [Int.toNat_natCast]; exact hb
      have hdr : s.drop k = b :: s.drop (k + 1) := by rw [List.drop_eq_getElem_cons hk, (List.getElem?_eq_some_iff.1 hb).2]
      rw [hdr, rdP] at hrd
      cases hd : digitVal b with
      | none =>
        rw [hd] at hrd
        dsimp only at hrd
        subst hrd
        have hc := byte_no hd
        repeat' ((conv => whnf); first | (with_reducible first | refine br_t ?_ | refine br_f ?_ | refine za ?_ | refine zg ?_) | refine za ?_ fmt_fn | refine zsl ?_ | refine zsg ?_ | refine zss ?_ | refine zs1 ?_ | refine zse ?_ | refine zsn ?_ | refine zsc ?_ | (with_reducible first | refine zpa ?_ | refine zqa ?_) | refine zp ?_ | refine zq ?_ | (with_reducible first | refine bc (fun h => ?_) (fun h => ?_) | refine zt ?_ | refine zf ?_ | refine br_i (fun h => ?_) (fun h => ?_)) | refine zg ?_ | refine zi ?_ | refine zb ?_)
        all_goals conv => whnf
        all_goals rfl
      | some d =>
        rw [hd] at hrd
        dsimp only at hrd
        obtain ⟨hd9, hc⟩ := byte_some hd
        have hq := quo_of hd9
        rw [← hc] at hq
        have h4 : 10 * n + d ≤ 9223372036854775807 → IntKind.i64.wrap (IntKind.i64.wrap (10 * (n : Int)) + IntKind.i64.wrap (IntKind.u8.wrap ((b.toNat : Int) - 48))) = ((10 * n + d : Nat) : Int) := fun h => by
          rw [hc, IntWalk.i64_in (10 * (n : Int)) (by omega), IntWalk.i64_in (d : Int) (by omega), IntWalk.i64_in _ (by omega)]; omega
        by_cases hle : 10 * n + d ≤ 9223372036854775807
        · rw [if_pos hle] at hrd
          have h4 := h4 hle
          repeat' ((conv => whnf); first | (with_reducible first | refine br_t ?_ | refine br_f ?_ | refine za ?_ | refine zg ?_) | refine za ?_ fmt_fn | refine zsl ?_ | refine zsg ?_ | refine zss ?_ | refine zs1 ?_ | refine zse ?_ | refine zsn ?_ | refine zsc ?_ | (with_reducible first | refine zpa ?_ | refine zqa ?_) | refine zp ?_ | refine zq ?_ | (with_reducible first | refine bc (fun h => ?_) (fun h => ?_) | refine zt ?_ | refine zf ?_ | refine br_i (fun h => ?_) (fun h => ?_)) | refine zg ?_ | refine zi ?_ | refine zb ?_)
          all_goals conv => whnf
          refine ⟨(10 * n + d, k + 1), ⟨by simp only; omega, by simp only; omega, hle, hrd⟩, ?_, by simp only; omega⟩
          (conv => whnf); exact zent
        · rw [if_neg hle] at hrd
          subst hrd
          repeat' ((conv => whnf); first | (with_reducible first | refine br_t ?_ | refine br_f ?_ | refine za ?_ | refine zg ?_) | refine za ?_ fmt_fn | refine zsl ?_ | refine zsg ?_ | refine zss ?_ | refine zs1 ?_ | refine zse ?_ | refine zsn ?_ | refine zsc ?_ | (with_reducible first | refine zpa ?_ | refine zqa ?_) | refine zp ?_ | refine zq ?_ | (with_reducible first | refine bc (fun h => ?_) (fun h => ?_) | refine zt ?_ | refine zf ?_ | refine br_i (fun h => ?_) (fun h => ?_)) | refine zg ?_ | refine zi ?_ | refine zb ?_)
          all_goals conv => whnf
          all_goals rfl
end Go.Proofs.YtgdpogdgpfjnoaaDoor

namespace Go.Proofs.YtgdpogdgpfjnoaaDoor
open Go.RowKit Go.Sort Sx Go.Lib
def spl (c : UInt8) : Str → List Str
  | [] => [[]]
  | b :: l => if b = c then [] :: spl c l else match spl c l with | h :: t => (b :: h) :: t | [] => [[b]]
def cut1 (c : UInt8) : Str → Str × Str × Bool
  | [] => ([], [], false)
  | b :: l => if b = c then ([], l, true) else (b :: (cut1 c l).1, (cut1 c l).2.1, (cut1 c l).2.2)
theorem spl_at {c : UInt8} : ∀ {a : Str} (r : Str), c ∉ a → spl c (a ++ c :: r) = a :: spl c r
  | [], r, _ => by rw [List.nil_append, spl, if_pos rfl]
  | b :: a, r, h => by
    rw [List.cons_append, spl, if_neg (fun e => h (by rw [e]; exact List.mem_cons_self ..)), spl_at r (fun k => h (List.mem_cons_of_mem _ k))]
theorem spl_no {c : UInt8} : ∀ {a : Str}, c ∉ a → spl c a = [a]
  | [], _ => rfl
  | b :: a, h => by
    rw [spl, if_neg (fun e => h (by rw [e]; exact List.mem_cons_self ..)), spl_no (fun k => h (List.mem_cons_of_mem _ k))]
theorem cut1_at {c : UInt8} : ∀ {a : Str} (r : Str), c ∉ a → cut1 c (a ++ c :: r) = (a, r, true)
  | [], r, _ => by rw [List.nil_append, cut1, if_pos rfl]
  | b :: a, r, h => by
    rw [List.cons_append, cut1, if_neg (fun e => h (by rw [e]; exact List.mem_cons_self ..)), cut1_at r (fun k => h (List.mem_cons_of_mem _ k))]
theorem cut1_no {c : UInt8} : ∀ {a : Str}, c ∉ a → cut1 c a = (a, [], false)
  | [], _ => rfl
  | b :: a, h => by
    rw [cut1, if_neg (fun e => h (by rw [e]; exact List.mem_cons_self ..)), cut1_no (fun k => h (List.mem_cons_of_mem _ k))]
theorem spl_ne (c : UInt8) : ∀ s : Str, spl c s ≠ []
  | [] => by simp [spl]
  | b :: l => by
    rw [spl]
    split
    · simp
    · split <;> simp
theorem itoa_mem {n : Int} {b : UInt8} (h : b ∈ itoa n) : b = 45 ∨ (48 ≤ b.toNat ∧ b.toNat ≤ 57) := by
  unfold itoa at h
  split at h
  · rcases List.mem_cons.1 h with h | h
    · exact .inl h
    · exact .inr (dec_mem _ b h)
  · exact .inr (dec_mem _ b h)
theorem itoa_no {n : Int} {c : UInt8} (h1 : c ≠ 45) (h2 : c.toNat < 48 ∨ 57 < c.toNat) : c ∉ itoa n := fun h => by
  rcases itoa_mem h with h | h
  · exact h1 h
  · omega
def wrtV (n d : Int) : Str := if d = 1 then itoa n else itoa n ++ 47 :: itoa d
def numV (n d : Int) : Str × Int := if chk n d = 0 then (wrtV n d, 0) else ([], 8)
def backV (s : Str) (n d : Int) : (Int × Int) × Int := if chk n d = 0 ∧ wrtV n d = s then ((n, d), 0) else ((0, 0), 12)
def readV (s : Str) : (Int × Int) × Int :=
  if (wholeV (cut1 47 s).1).2 = true ∧ ((cut1 47 s).2.2 = true → (wholeV (cut1 47 s).2.1).2 = true) then backV s (wholeV (cut1 47 s).1).1 (if (cut1 47 s).2.2 then (wholeV (cut1 47 s).2.1).1 else 1) else ((0, 0), 12)
structure IsRead (f : Str → (Int × Int) × Int) : Prop where
  ok : ∀ s, (f s).2 = 0 → chk (f s).1.1 (f s).1.2 = 0 ∧ wrtV (f s).1.1 (f s).1.2 = s
  no : ∀ s, (f s).2 ≠ 0 → f s = ((0, 0), 12)
  of : ∀ n d, chk n d = 0 → fitI n → fitI d → f (wrtV n d) = ((n, d), 0)
  fit : ∀ s, (f s).2 = 0 → fitI (f s).1.1 ∧ fitI (f s).1.2
theorem IsRead.cases {f : Str → (Int × Int) × Int} (hf : IsRead f) (s : Str) : (∃ n d, chk n d = 0 ∧ fitI n ∧ fitI d ∧ wrtV n d = s ∧ f s = ((n, d), 0)) ∨ (f s = ((0, 0), 12) ∧ ∀ n d, chk n d = 0 → fitI n → fitI d → wrtV n d ≠ s) := by
  by_cases h : (f s).2 = 0
  · obtain ⟨a, b⟩ := hf.ok s h
    obtain ⟨c, d⟩ := hf.fit s h
    refine .inl ⟨_, _, a, c, d, b, ?_⟩
    rw [← h]
  · refine .inr ⟨hf.no s h, fun n d h1 h2 h3 e => ?_⟩
    have := hf.of n d h1 h2 h3
    rw [e] at this
    rw [this] at h; exact h rfl
theorem backV_ok {s : Str} {n d : Int} (h : (backV s n d).2 = 0) : chk (backV s n d).1.1 (backV s n d).1.2 = 0 ∧ wrtV (backV s n d).1.1 (backV s n d).1.2 = s := by
  unfold backV at h ⊢
  split at h
  · rename_i c; rw [if_pos c]; exact c
  · cases h
theorem backV_fit {s : Str} {n d : Int} (hn : fitI n) (hd : fitI d) : fitI (backV s n d).1.1 ∧ fitI (backV s n d).1.2 := by
  unfold backV
  split
  · exact ⟨hn, hd⟩
  · exact ⟨⟨by decide, by decide⟩, ⟨by decide, by decide⟩⟩
theorem backV_no {s : Str} {n d : Int} (h : (backV s n d).2 ≠ 0) : backV s n d = ((0, 0), 12) := by
  unfold backV at h ⊢
  split at h
  · exact absurd rfl h
  · rename_i c; rw [if_neg c]
theorem readV_is : IsRead readV := by
  refine ⟨fun s h => ?_, fun s h => ?_, fun n d hc hn hd => ?_, fun s h => ?_⟩
  · unfold readV at h ⊢
    split at h
    · rename_i c; rw [if_pos c]; exact backV_ok h
    · cases h
  · unfold readV at h ⊢
    split at h
    · rename_i c; rw [if_pos c]; exact backV_no h
    · rename_i c; rw [if_neg c]
  · have hb : ∀ s, wrtV n d = s → backV s n d = ((n, d), 0) := fun s e => by unfold backV; rw [if_pos ⟨hc, e⟩]
    have hno : (47 : UInt8) ∉ itoa n := itoa_no (by decide) (by decide)
    unfold readV
    by_cases h1 : d = 1
    · have e : wrtV n d = itoa n := by unfold wrtV; rw [if_pos h1]
      rw [e, cut1_no hno]
      dsimp only
      rw [whole_itoa hn, if_pos ⟨rfl, fun h => by cases h⟩]
      dsimp only
      rw [← h1]
      exact hb _ e
    · have e : wrtV n d = itoa n ++ 47 :: itoa d := by unfold wrtV; rw [if_neg h1]
      rw [e, cut1_at _ hno]
      dsimp only
      rw [whole_itoa hn, whole_itoa hd, if_pos ⟨rfl, fun _ => rfl⟩]
      dsimp only
      rw [if_pos rfl]
      exact hb _ e
  · unfold readV at h ⊢
    split at h
    · rename_i c
      rw [if_pos c]
      refine backV_fit (whole_ok c.1).1 ?_
      split
      · rename_i c2; exact (whole_ok (c.2 c2)).1
      · exact ⟨by decide, by decide⟩
    · cases h
theorem chk_fit {n d : Int} (hc : chk n d = 0) (hn : -9223372036854775808 ≤ n ∧ n ≤ 9223372036854775807) (hd : -9223372036854775808 ≤ d ∧ d ≤ 9223372036854775807) : fitI n ∧ fitI d := by
  obtain ⟨h1, h2, _⟩ := (chk_iff n d).1 hc
  exact ⟨⟨by omega, by omega⟩, ⟨by omega, by omega⟩⟩
end Go.Proofs.YtgdpogdgpfjnoaaDoor

namespace Go.Proofs.YtgdpogdgpfjnoaaDoor
open Go.RowKit Go.Sort Sx Go.Lib
theorem idx_cons (c b : UInt8) (l : Str) : Lib.index (b :: l) [c] = if b = c then 0 else if Lib.index l [c] = -1 then -1 else Lib.index l [c] + 1 := by
  rw [Lib.index]
  have e : ([c] : Str).isPrefixOf (b :: l) = (c == b) := by simp [List.isPrefixOf]
  rw [e]
  by_cases h : b = c
  · subst h; simp
  · rw [if_neg h, if_neg (by simpa using fun k => h k.symm)]
    by_cases h2 : Lib.index l [c] = -1
    · rw [if_pos (by rw [h2]; rfl), if_pos h2]
    · rw [if_neg (by simpa using h2), if_neg h2]
theorem spl_idx (c : UInt8) : ∀ s : Str, (Lib.index s [c] = -1 → spl c s = [s] ∧ cut1 c s = (s, [], false)) ∧ ∀ i : Nat, Lib.index s [c] = i → spl c s = s.take i :: spl c (s.drop (i + 1)) ∧ cut1 c s = (s.take i, s.drop (i + 1), true) ∧ i < s.length
  | [] => ⟨fun _ => ⟨rfl, rfl⟩, fun i h => by
      have : Lib.index ([] : Str) [c] = -1 := rfl
      omega⟩
  | b :: l => by
    obtain ⟨h1, h2⟩ := spl_idx c l
    rw [idx_cons]
    by_cases h : b = c
    · rw [if_pos h]
      refine ⟨fun k => by omega, fun i k => ?_⟩
      have : i = 0 := by omega
      subst this
      refine ⟨?_, ?_, by simp⟩
      · rw [spl, if_pos h]; rfl
      · rw [cut1, if_pos h]; rfl
    · rw [if_neg h]
      by_cases h3 : Lib.index l [c] = -1
      · rw [if_pos h3]
        obtain ⟨a, b'⟩ := h1 h3
        refine ⟨fun _ => ⟨?_, ?_⟩, fun i k => by omega⟩
        · rw [spl, if_neg h, a]
        · rw [cut1, if_neg h, b']
      · rw [if_neg h3]
        have hg := Lib.index_ge l [c]
        refine ⟨fun k => by omega, fun i k => ?_⟩
        obtain ⟨j, rfl⟩ : ∃ j, i = j + 1 := ⟨i - 1, by omega⟩
        obtain ⟨a, b', c'⟩ := h2 j (by omega)
        refine ⟨?_, ?_, by simp; omega⟩
        · rw [spl, if_neg h, a]; rfl
        · rw [cut1, if_neg h, b']; rfl
theorem lcut_eq (c : UInt8) (s : Str) : Lib.cut s [c] = cut1 c s := by
  obtain ⟨h1, h2⟩ := spl_idx c s
  have hg := Lib.index_ge s [c]
  unfold Lib.cut
  by_cases h : 0 ≤ Lib.index s [c]
  · rw [if_pos h]
    obtain ⟨i, hi⟩ : ∃ i : Nat, Lib.index s [c] = i := ⟨(Lib.index s [c]).toNat, by omega⟩
    rw [(h2 i hi).2.1, hi, Int.toNat_natCast]; rfl
  · rw [if_neg h, (h1 (by omega)).2]
theorem lsplit_eq (c : UInt8) : ∀ (n : Nat) (s : Str), s.length ≤ n → Lib.splitK [c] 0 (Lib.count s [c]) s = spl c s
  | n, s, hn => by
    obtain ⟨h1, h2⟩ := spl_idx c s
    have hg := Lib.index_ge s [c]
    by_cases h : Lib.index s [c] = -1
    · rw [Lib.count_miss h, (h1 h).1]; rfl
    · obtain ⟨i, hi⟩ : ∃ i : Nat, Lib.index s [c] = i := ⟨(Lib.index s [c]).toNat, by omega⟩
      obtain ⟨a, b, hlt⟩ := h2 i hi
      cases n with
      | zero => omega
      | succ n =>
        have hc : Lib.count s [c] = 1 + Lib.count (s.drop (i + 1)) [c] := Lib.count_hit (by simp) hi
        rw [hc, Nat.add_comm 1, Lib.splitK, if_neg (by simpa using h), hi, Int.toNat_natCast, a]
        have := lsplit_eq c n (s.drop (i + 1)) (by rw [List.length_drop]; omega)
        rw [show i + [c].length = i + 1 from rfl, this, Nat.add_zero]
theorem spl_len (c : UInt8) : ∀ s : Str, (spl c s).length ≤ s.length + 1
  | [] => by simp [spl]
  | b :: l => by
    have := spl_len c l
    have hne := spl_ne c l
    rw [spl]
    split
    · simp only [List.length_cons]; omega
    · split
      · rename_i h t e; rw [e] at this; simp only [List.length_cons] at this ⊢; omega
      · rename_i e; exact absurd e hne
theorem spl_each (c : UInt8) : ∀ (s : Str), ∀ x ∈ spl c s, x.length ≤ s.length
  | [], x, h => by simp [spl] at h; subst h; simp
  | b :: l, x, h => by
    have ih := spl_each c l
    rw [spl] at h
    split at h
    · rcases List.mem_cons.1 h with rfl | h
      · simp
      · have := ih x h; simp only [List.length_cons]; omega
    · split at h
      · rename_i a t e
        rw [e] at ih
        rcases List.mem_cons.1 h with rfl | h
        · have := ih a (List.mem_cons_self ..); simp only [List.length_cons]; omega
        · have := ih x (List.mem_cons_of_mem _ h); simp only [List.length_cons]; omega
      · rename_i e; exact absurd e (spl_ne c l)
theorem cut1_len (c : UInt8) : ∀ s : Str, (cut1 c s).1.length ≤ s.length ∧ (cut1 c s).2.1.length ≤ s.length
  | [] => by simp [cut1]
  | b :: l => by
    have ih := cut1_len c l
    rw [cut1]
    split
    · simp
    · simp only [List.length_cons]; omega
theorem trim_eq (c : UInt8) (s : Str) : Lib.trimSuffix s [c] = if s.getLast? = some c then s.dropLast else s := by
  unfold Lib.trimSuffix Lib.hasSuffix
  have e : ([c] : Str).isSuffixOf s = true ↔ s.getLast? = some c := by
    rw [List.isSuffixOf_iff_suffix]
    constructor
    · rintro ⟨t, rfl⟩; simp
    · intro h
      have hne : s ≠ [] := fun k => by rw [k] at h; cases h
      exact ⟨s.dropLast, by rw [List.getLast?_eq_some_getLast hne] at h; injection h with h; rw [← h]; exact List.dropLast_concat_getLast hne⟩
  by_cases h : s.getLast? = some c
  · rw [if_pos (e.2 h), if_pos h, List.dropLast_eq_take]; rfl
  · rw [if_neg (fun k => h (e.1 k)), if_neg h]
end Go.Proofs.YtgdpogdgpfjnoaaDoor

namespace Go.Proofs.YtgdpogdgpfjnoaaDoor
open Go Go.RowKit Go.Sort Sx
open Go.Lib hiding intOf
abbrev strs (l : List Str) : D := .list 1 (l.map fun s => [str s])
abbrev retS (x : Str × Int) : DV := .tup [.one (str x.1), .one (i64 x.2)]
theorem toL (a : Str) : (⟨a.toArray⟩ : ByteArray).data.toList = a := rfl
theorem rep_str {w : World} {M : Nat → Prop} {s : Str} {v : Value} (h : Rep w M (str s) v) : v = bstr s := by cases h; rfl
theorem dr_below (w : World) (n : Nat) : Below w.heap.size w (w.drewN n) := by
  have h := Below.refl w.heap.size w
  exact ⟨h.os, h.tape, h.output, h.size, h.block⟩
theorem cut_fn {s : Str} {c : UInt8} (hs : s.length < 4294967281) : FnOK Tryd.prog 58 [.one (str s), .one (str [c])] (.tup [.one (str (cut1 c s).1), .one (str (cut1 c s).2.1), .one (bol (cut1 c s).2.2)]) :=
  fn_of_callsG (fun _ _ => Tryd.call58 _ _) rfl rfl (fun _ => ⟨.v trivial, .v trivial, .v trivial, trivial⟩) (fun h w hg => by
    obtain ⟨m, hm⟩ := hg.ml
    have H := Tryd.strings_Cut ⟨s.toArray⟩ ⟨[c].toArray⟩ m w hs hm
    simp only [lcut_eq] at H
    exact H.mono fun e w' ⟨he, n, hw⟩ => ⟨he, hw ▸ dr_below w n⟩)
theorem trim_fn {s : Str} {c : UInt8} (hs : s.length ≤ 9223372036854775807) : FnOK Tryd.prog 38 [.one (str s), .one (str [c])] (.c (.one (str (if s.getLast? = some c then s.dropLast else s)))) :=
  fn_of_callsG (fun _ _ => Tryd.call38 _ _) rfl rfl (fun _ => .v trivial) (fun h w hg => by
    have H := Tryd.strings_TrimSuffix ⟨s.toArray⟩ ⟨[c].toArray⟩ w hs
    simp only [trim_eq] at H
    exact H.mono fun e w' ⟨he, hw⟩ => ⟨he, hw ▸ Below.refl _ _⟩)
theorem rep_new {w : World} {M : Nat → Prop} (hM : ∀ b, M b → b < w.heap.size) {l : List Str} {bs : List ByteArray} {T : TypeId} (hb : bs.map (·.data.toList) = l) (hm : l.length ≤ 9223372036854775807) : Rep (w.alloc (.cells (bs.map Value.string).toArray T)) M (strs l) (.slice (some ⟨w.heap.size, 0, none⟩) l.length l.length) := by
  have hl : bs.length = l.length := by rw [← hb, List.length_map]
  have e : l.length = (l.map fun s => [str s]).length := by rw [List.length_map]
  have e1 : ∀ i (hi : i < l.length), (bs[i]'(by omega)).data.toList = l[i] := fun i hi => by subst hb; rw [List.getElem_map]
  have key : Rep (w.alloc (.cells (bs.map Value.string).toArray T)) M (.list 1 (l.map fun s => [str s])) (.slice (some ⟨w.heap.size, 0, none⟩) (l.map fun s => [str s]).length l.length) := by
    refine .list (fun i _ => bstr (l.getD i [])) (by rw [← e]; exact Nat.le_refl _) hm (fun h => absurd (hM _ h) (by omega)) (by simp) (fun x hx => ?_) (fun i j hi hj => ?_) (fun i j hi hj => ?_)
    · obtain ⟨s, _, rfl⟩ := List.mem_map.1 hx; rfl
    · have hi' : i < l.length := by rw [e]; exact hi
      have : j = 0 := by omega
      subst this
      have := e1 i hi'
      have hx : (⟨(l.getD i []).toArray⟩ : ByteArray) = bs[i]'(by omega) := by
        rw [List.getD_eq_getElem?_getD, List.getElem?_eq_getElem hi', Option.getD_some, ← this]
      simp only [Nat.zero_add, Nat.mul_one, Nat.add_zero]
      rw [World.cell?_alloc_new]
      simp [List.getElem?_eq_getElem (show i < bs.length by omega)]
      rw [← hx, List.getD_eq_getElem?_getD]
    · have hi' : i < l.length := by rw [e]; exact hi
      have ee : (l.map fun s => [str s])[i] = [str l[i]] := by rw [List.getElem_map]
      have hj0 : j = 0 := by rw [ee] at hj; simp at hj; omega
      subst hj0
      have : (l.map fun s => [str s])[i][0] = str l[i] := by simp only [ee]; rfl
      rw [this]
      have hx : l.getD i [] = l[i] := by rw [List.getD_eq_getElem?_getD, List.getElem?_eq_getElem hi', Option.getD_some]
      rw [hx]
      exact .v _ rfl trivial
  rw [← e] at key
  exact key
theorem split_fn {s : Str} {c : UInt8} (hs : s.length < 4294967281) : FnOK Tryd.prog 37 [.one (str s), .one (str [c])] (.c (.one (strs (spl c s)))) := by
  refine fun w M vs hM hvs => .inl ⟨37, Tryd.call37 _ _, ?_⟩
  obtain ⟨h1, h2⟩ := (dcs_rel (l := [.one (str s), .one (str [c])]) rfl).1 hvs
  subst h1
  obtain ⟨m, hm⟩ := hM.gd.ml
  have hb : (splitB ⟨[c].toArray⟩ 0 (countB ⟨s.toArray⟩ ⟨[c].toArray⟩) ⟨s.toArray⟩).map (·.data.toList) = spl c s := by
    rw [splitB_data]
    exact lsplit_eq c _ s (Nat.le_refl _)
  have hlen := spl_len c s
  have hcnt : countB ⟨s.toArray⟩ ⟨[c].toArray⟩ + 1 = (spl c s).length := by
    have : ∀ (n : Nat) (s : Str), s.length ≤ n → Lib.count s [c] + 1 = (spl c s).length := by
      intro n
      induction n with
      | zero =>
        intro s hn
        have : s = [] := List.eq_nil_of_length_eq_zero (by omega)
        subst this
        rw [Lib.count_miss (show Lib.index ([] : Str) [c] = -1 from rfl)]; rfl
      | succ n ih =>
        intro s hn
        obtain ⟨h1, h2⟩ := spl_idx c s
        have hg := Lib.index_ge s [c]
        by_cases h : Lib.index s [c] = -1
        · rw [Lib.count_miss h, (h1 h).1]; rfl
        · obtain ⟨i, hi⟩ : ∃ i : Nat, Lib.index s [c] = i := ⟨(Lib.index s [c]).toNat, by omega⟩
          obtain ⟨a, b, hlt⟩ := h2 i hi
          have hc : Lib.count s [c] = 1 + Lib.count (s.drop (i + 1)) [c] := Lib.count_hit (by simp) hi
          have := ih (s.drop (i + 1)) (by rw [List.length_drop]; omega)
          rw [hc, a, List.length_cons]; omega
    exact this _ s (Nat.le_refl _)
  refine (Tryd.strings_Split ⟨s.toArray⟩ ⟨[c].toArray⟩ m w hs hm (Nat.le_refl 1)).mono fun e w' ⟨he, hw⟩ => ⟨_, he, ?_, ?_⟩
  · subst hw
    rw [hcnt]
    exact rep_new hM.lt hb (by omega)
  · subst hw
    exact (Below.refl _ _).alloc (Nat.le_refl _) _
theorem rep_strs {w : World} {M : Nat → Prop} {es : List Str} {v : Value} (h0 : es ≠ []) (h : Rep w M (strs es) v) : ∃ b off cap, v = .slice (some ⟨b, off, none⟩) es.length cap ∧ es.length ≤ cap ∧ b < w.heap.size ∧ (∀ i (hi : i < es.length), w.cell? ⟨b, off + i, none⟩ = some (bstr es[i])) := by
  obtain ⟨l, hl⟩ : ∃ l : List (List Sx.D), l = es.map fun i => [str i] := ⟨_, rfl⟩
  have hll : l.length = es.length := by rw [hl, List.length_map]
  have h' : Rep w M (.list 1 l) v := by rw [hl]; exact h
  clear h
  cases h' with
  | nil k x c hm hx =>
    exact absurd (List.eq_nil_of_length_eq_zero (by rw [← hll]; rfl)) h0
  | @list b off cap k l vs hc hm hMb hb hk hv hr =>
    refine ⟨b, off, cap, by rw [hll], by omega, hb, fun i hi => ?_⟩
    have hi' : i < l.length := by omega
    have h1 := hv i 0 hi' (by decide)
    have e1 : l[i] = [str es[i]] := by subst hl; rw [List.getElem_map]
    have h2 := hr i 0 hi' (by rw [e1]; exact Nat.zero_lt_one)
    have e2 : l[i][0]'(by rw [e1]; exact Nat.zero_lt_one) = str es[i] := by simp only [e1]; rfl
    rw [e2] at h2
    rw [rep_str h2] at h1
    simpa using h1
def joinC (c : UInt8) : List Str → Str
  | [] => []
  | [a] => a
  | a :: l => a ++ c :: joinC c l
theorem ljoin_eq (c : UInt8) : ∀ l : List Str, Lib.join l [c] = joinC c l
  | [] => rfl
  | [a] => Lib.join_one _ _
  | a :: b :: l => by
    have ih := ljoin_eq c (b :: l)
    rw [Lib.join_cons] at ih ⊢
    show _ = a ++ c :: joinC c (b :: l)
    rw [← ih]
    simp [Lib.joinTail]
theorem join_fn {l : List Str} {c : UInt8} (hl : l.length ≤ 1000000) (hj : (joinC c l).length ≤ 1000000) : FnOK Tryd.prog 55 [.one (strs l), .one (str [c])] (.c (.one (str (joinC c l)))) := by
  refine fun w M vs hM hvs => .inl ⟨55, Tryd.call55 _ _, ?_⟩
  match vs, hvs with
  | [u, v], hvs =>
    obtain ⟨h1, h2, _⟩ := hvs
    have h2 := rep_str h2
    subst h2
    by_cases h0 : l = []
    · subst h0
      obtain ⟨a, c', rfl⟩ : ∃ a c', u = .slice a 0 c' := by
        have h1 : Rep w M (.list 1 []) u := h1
        cases h1 with
        | nil k x c hm hx => exact ⟨_, _, rfl⟩
        | list vs => exact ⟨_, _, rfl⟩
      exact (Tryd.strings_Join_none a c' ⟨[c].toArray⟩ w).mono fun e w' ⟨he, hw⟩ => ⟨_, he, .v _ rfl trivial, hw ▸ Below.refl _ _⟩
    · obtain ⟨b, off, cap, rfl, hc, hb, hv⟩ := rep_strs h0 h1
      have hmap : (l.map fun s => (⟨s.toArray⟩ : ByteArray)).map (·.data.toList) = l := by rw [List.map_map]; exact List.map_id l
      have H := Tryd.strings_Join b off cap (l.map fun s => ⟨s.toArray⟩) ⟨[c].toArray⟩ w (fun j x hx => by
        rw [List.getElem?_map] at hx
        cases e : l[j]? with
        | none => rw [e] at hx; cases hx
        | some y =>
          rw [e] at hx
          injection hx with hx
          subst hx
          obtain ⟨hj, rfl⟩ := List.getElem?_eq_some_iff.1 e
          exact hv j hj) hb (by rw [List.length_map]; omega) (by rw [List.length_map]; exact hc) (by rw [hmap, toL, ljoin_eq]; omega)
      rw [List.length_map, hmap, toL, ljoin_eq] at H
      exact H.mono fun e w' ⟨he, hw⟩ => ⟨_, he, .v _ rfl trivial, hw⟩
  | [], hvs => exact hvs.elim
  | [_], hvs => exact hvs.2.elim
  | _ :: _ :: _ :: _, hvs => exact hvs.2.2.elim
end Go.Proofs.YtgdpogdgpfjnoaaDoor

namespace Go.Proofs.YtgdpogdgpfjnoaaDoor
open Go Go.RowKit Go.Sort Sx
open Go.Lib hiding intOf
end Go.Proofs.YtgdpogdgpfjnoaaDoor

namespace Go.Proofs.YtgdpogdgpfjnoaaDoor
open Go Go.RowKit Go.Sort Sx
open Go.Lib hiding intOf
end Go.Proofs.YtgdpogdgpfjnoaaDoor

namespace Go.Proofs.YtgdpogdgpfjnoaaDoor
open Go Go.RowKit Go.Sort Sx
open Go.Lib hiding intOf
abbrev i64in (n : Int) : Prop := -9223372036854775808 ≤ n ∧ n ≤ 9223372036854775807
theorem itoa_le {n : Int} (h : i64in n) : (itoa n).length ≤ 21 := by
  have hd : ∀ (j u : Nat), u < 10 ^ (j + 1) → (decDigits u).length ≤ j + 1 := by
    intro j u hu
    rw [decDigits_length]
    revert u
    induction j with
    | zero => intro u hu; rw [nDigits_small (by simpa using hu)]; exact Nat.le_refl _
    | succ j ih2 =>
      intro u hu
      by_cases h10 : u < 10
      · rw [nDigits_small h10]; omega
      · rw [nDigits_big h10]
        have := ih2 (u / 10) (by rw [Nat.pow_succ] at hu; omega)
        omega
  have e : (10 : Nat) ^ (19 + 1) = 100000000000000000000 := by decide
  obtain ⟨h1, h2⟩ := h
  unfold itoa
  split
  · rw [List.length_cons]; have := hd 19 n.natAbs (by omega); omega
  · have := hd 19 n.toNat (by omega); omega
theorem wrtV_le {n d : Int} (h1 : i64in n) (h2 : i64in d) : (wrtV n d).length ≤ 43 := by
  have a := itoa_le h1
  have b := itoa_le h2
  unfold wrtV
  split
  · omega
  · simp only [List.length_append, List.length_cons]; omega
theorem wdR1 {a b : Int} (h : WDCs [.agg [i64 a, i64 b]]) : i64in a ∧ i64in b := ⟨wd_i64.1 h.1.1, wd_i64.1 h.1.2.1⟩
theorem cNumber_fn (n d : Int) : FnOK Tryd.prog 20 [.agg [i64 n, i64 d]] (retS (numV n d)) := by
  have Hc := check_fn n d
  unfold numV
  refine fn_ok (by kernel_rfl) ty_ok Tryd.func20 rfl (fun _ _ => Tryd.call20 _ _) rfl ?_
  intro hw
  obtain ⟨h1, h2⟩ := wdR1 hw
  clear hw
  have l1 := itoa_le h1
  have l2 := itoa_le h2
  by_cases h : chk n d = 0
  · rw [if_pos h]
    rw [h] at Hc
    unfold wrtV
    by_cases h3 : d = 1
    · rw [if_pos h3]
      subst h3
      repeat' ((conv => whnf); first | (with_reducible first | refine br_t ?_ | refine br_f ?_ | refine za ?_ | refine zg ?_) | refine za ?_ fmt_fn | refine zsl ?_ | refine zsg ?_ | refine zss ?_ | refine zs1 ?_ | refine zse ?_ | refine zsn ?_ | refine zsc ?_ | (with_reducible first | refine zpa ?_ | refine zqa ?_) | refine zp ?_ | refine zq ?_ | (with_reducible first | refine bc (fun h => ?_) (fun h => ?_) | refine zt ?_ | refine zf ?_ | refine br_i (fun h => ?_) (fun h => ?_)) | refine zg ?_ | refine zi ?_ | refine zb ?_)
      all_goals conv => whnf
      all_goals rfl
    · rw [if_neg h3]
      repeat' ((conv => whnf); first | (with_reducible first | refine br_t ?_ | refine br_f ?_ | refine za ?_ | refine zg ?_) | refine za ?_ fmt_fn | refine zsl ?_ | refine zsg ?_ | refine zss ?_ | refine zs1 ?_ | refine zse ?_ | refine zsn ?_ | refine zsc ?_ | (with_reducible first | refine zpa ?_ | refine zqa ?_) | refine zp ?_ | refine zq ?_ | (with_reducible first | refine bc (fun h => ?_) (fun h => ?_) | refine zt ?_ | refine zf ?_ | refine br_i (fun h => ?_) (fun h => ?_)) | refine zg ?_ | refine zi ?_ | refine zb ?_)
      all_goals conv => whnf
      all_goals rfl
  · rw [if_neg h]
    have h8 := (chk_08 n d).resolve_left h
    rw [h8] at Hc
    repeat' ((conv => whnf); first | (with_reducible first | refine br_t ?_ | refine br_f ?_ | refine za ?_ | refine zg ?_) | refine za ?_ fmt_fn | refine zsl ?_ | refine zsg ?_ | refine zss ?_ | refine zs1 ?_ | refine zse ?_ | refine zsn ?_ | refine zsc ?_ | (with_reducible first | refine zpa ?_ | refine zqa ?_) | refine zp ?_ | refine zq ?_ | (with_reducible first | refine bc (fun h => ?_) (fun h => ?_) | refine zt ?_ | refine zf ?_ | refine br_i (fun h => ?_) (fun h => ?_)) | refine zg ?_ | refine zi ?_ | refine zb ?_)
    all_goals conv => whnf
    all_goals rfl
theorem pointS_app (p : Int × Int × Int) : ((((itoa p.1 ++ [32]) ++ itoa p.2.1) ++ [32]) ++ itoa p.2.2) = itoa p.1 ++ 32 :: (itoa p.2.1 ++ 32 :: itoa p.2.2) := by simp
theorem cpoint_fn (i a b : Int) : FnOK Tryd.prog 33 [pt i a b] (.c (.one (str (itoa i ++ 32 :: (itoa a ++ 32 :: itoa b))))) := by
  rw [← pointS_app (i, a, b)]
  refine fn_ok (by kernel_rfl) ty_ok Tryd.func33 rfl (fun _ _ => Tryd.call33 _ _) rfl ?_
  intro hw
  have h1 := wd_i64.1 hw.1.1
  have h2 := wd_i64.1 hw.1.2.1
  have h3 := wd_i64.1 hw.1.2.2.1
  clear hw
  have l1 := itoa_le h1
  have l2 := itoa_le h2
  have l3 := itoa_le h3
  repeat' ((conv => whnf); first | (with_reducible first | refine br_t ?_ | refine br_f ?_ | refine za ?_ | refine zg ?_) | (refine za ?_ fmt_fn) | (refine za ?_ ito_fn) | refine zsl ?_ | refine zsg ?_ | refine zss ?_ | refine zs1 ?_ | refine zse ?_ | refine zsn ?_ | refine zsc ?_ | (with_reducible first | refine zpa ?_ | refine zqa ?_) | refine zp ?_ | refine zq ?_ | (with_reducible first | refine bc (fun h => ?_) (fun h => ?_) | refine zt ?_ | refine zf ?_ | refine br_i (fun h => ?_) (fun h => ?_)) | refine zg ?_ | refine zi ?_ | refine zb ?_)
  all_goals conv => whnf
  all_goals rfl
abbrev retR3 (x : (Int × Int) × Int) : DV := .tup [.agg [i64 x.1.1, i64 x.1.2], .one (i64 x.2)]
theorem numV_no {n d : Int} (h : ¬ chk n d = 0) : numV n d = ([], 8) := if_neg h
theorem numV_ok {n d : Int} (h : chk n d = 0) : numV n d = (wrtV n d, 0) := if_pos h
theorem backV_yes {s : Str} {n d : Int} (h : chk n d = 0) (e : wrtV n d = s) : backV s n d = ((n, d), 0) := if_pos ⟨h, e⟩
theorem backV_ne {s : Str} {n d : Int} (e : ¬ wrtV n d = s) : backV s n d = ((0, 0), 12) := if_neg fun h => e h.2
theorem backV_nc {s : Str} {n d : Int} (e : ¬ chk n d = 0) : backV s n d = ((0, 0), 12) := if_neg fun h => e h.1
theorem cReadNumber_fn (s : Str) (hs : s.length ≤ 1000000) : FnOK Tryd.prog 30 [.one (str s)] (retR3 (readV s)) := by
  have Hc := @cut_fn s 47 (by omega)
  obtain ⟨k1, k2⟩ := cut1_len 47 s
  have Ha := whole_fn (cut1 47 s).1 (by omega)
  have Hb := whole_fn (cut1 47 s).2.1 (by omega)
  unfold readV
  generalize cut1 47 s = x at *
  obtain ⟨x1, x2, x3⟩ := x
  dsimp only at *
  generalize wholeV x1 = p at *
  generalize wholeV x2 = q at *
  obtain ⟨pn, pb⟩ := p
  obtain ⟨qn, qb⟩ := q
  dsimp only at *
  simp only [retWh] at Ha Hb
  cases x3
  · simp only [Bool.false_eq_true, false_implies, and_true, if_false]
    have Hn := cNumber_fn pn 1
    refine fn_ok (by kernel_rfl) ty_ok Tryd.func30 rfl (fun _ _ => Tryd.call30 _ _) rfl ?_
    intro hw
    clear hw
    cases pb
    · simp only [Bool.false_eq_true, if_false]
      repeat' ((conv => whnf); first | (with_reducible first | refine br_t ?_ | refine br_f ?_ | refine za ?_ | refine zg ?_) | refine zsl ?_ | refine zsg ?_ | refine zss ?_ | refine zs1 ?_ | refine zse ?_ | refine zsn ?_ | refine zsc ?_ | (with_reducible first | refine zpa ?_ | refine zqa ?_) | refine zp ?_ | refine zq ?_ | (with_reducible first | refine bc (fun h => ?_) (fun h => ?_) | refine zt ?_ | refine zf ?_ | refine br_i (fun h => ?_) (fun h => ?_)) | refine zg ?_ | refine zi ?_ | refine zb ?_)
      all_goals conv => whnf
      all_goals first | rfl | contradiction
    · simp only [if_true]
      by_cases h : chk pn 1 = 0
      · rw [numV_ok h] at Hn
        simp only [retS] at Hn
        by_cases e : wrtV pn 1 = s
        · rw [backV_yes h e]
          repeat' ((conv => whnf); first | (with_reducible first | refine br_t ?_ | refine br_f ?_ | refine za ?_ | refine zg ?_) | refine zsl ?_ | refine zsg ?_ | refine zss ?_ | refine zs1 ?_ | refine zse ?_ | refine zsn ?_ | refine zsc ?_ | (with_reducible first | refine zpa ?_ | refine zqa ?_) | refine zp ?_ | refine zq ?_ | (with_reducible first | refine bc (fun h => ?_) (fun h => ?_) | refine zt ?_ | refine zf ?_ | refine br_i (fun h => ?_) (fun h => ?_)) | refine zg ?_ | refine zi ?_ | refine zb ?_)
          all_goals conv => whnf
          all_goals first | rfl | contradiction
        · rw [backV_ne e]
          repeat' ((conv => whnf); first | (with_reducible first | refine br_t ?_ | refine br_f ?_ | refine za ?_ | refine zg ?_) | refine zsl ?_ | refine zsg ?_ | refine zss ?_ | refine zs1 ?_ | refine zse ?_ | refine zsn ?_ | refine zsc ?_ | (with_reducible first | refine zpa ?_ | refine zqa ?_) | refine zp ?_ | refine zq ?_ | (with_reducible first | refine bc (fun h => ?_) (fun h => ?_) | refine zt ?_ | refine zf ?_ | refine br_i (fun h => ?_) (fun h => ?_)) | refine zg ?_ | refine zi ?_ | refine zb ?_)
          all_goals conv => whnf
          all_goals first | rfl | contradiction
      · rw [backV_nc h]
        rw [numV_no h] at Hn
        simp only [retS] at Hn
        repeat' ((conv => whnf); first | (with_reducible first | refine br_t ?_ | refine br_f ?_ | refine za ?_ | refine zg ?_) | refine zsl ?_ | refine zsg ?_ | refine zss ?_ | refine zs1 ?_ | refine zse ?_ | refine zsn ?_ | refine zsc ?_ | (with_reducible first | refine zpa ?_ | refine zqa ?_) | refine zp ?_ | refine zq ?_ | (with_reducible first | refine bc (fun h => ?_) (fun h => ?_) | refine zt ?_ | refine zf ?_ | refine br_i (fun h => ?_) (fun h => ?_)) | refine zg ?_ | refine zi ?_ | refine zb ?_)
        all_goals conv => whnf
        all_goals first | rfl | contradiction
  · simp only [true_implies, if_true]
    have Hn := cNumber_fn pn qn
    refine fn_ok (by kernel_rfl) ty_ok Tryd.func30 rfl (fun _ _ => Tryd.call30 _ _) rfl ?_
    intro hw
    clear hw
    cases pb
    · simp only [Bool.false_eq_true, false_and, if_false]
      repeat' ((conv => whnf); first | (with_reducible first | refine br_t ?_ | refine br_f ?_ | refine za ?_ | refine zg ?_) | refine zsl ?_ | refine zsg ?_ | refine zss ?_ | refine zs1 ?_ | refine zse ?_ | refine zsn ?_ | refine zsc ?_ | (with_reducible first | refine zpa ?_ | refine zqa ?_) | refine zp ?_ | refine zq ?_ | (with_reducible first | refine bc (fun h => ?_) (fun h => ?_) | refine zt ?_ | refine zf ?_ | refine br_i (fun h => ?_) (fun h => ?_)) | refine zg ?_ | refine zi ?_ | refine zb ?_)
      all_goals conv => whnf
      all_goals first | rfl | contradiction
    · cases qb
      · simp only [Bool.false_eq_true, and_false, if_false]
        repeat' ((conv => whnf); first | (with_reducible first | refine br_t ?_ | refine br_f ?_ | refine za ?_ | refine zg ?_) | refine zsl ?_ | refine zsg ?_ | refine zss ?_ | refine zs1 ?_ | refine zse ?_ | refine zsn ?_ | refine zsc ?_ | (with_reducible first | refine zpa ?_ | refine zqa ?_) | refine zp ?_ | refine zq ?_ | (with_reducible first | refine bc (fun h => ?_) (fun h => ?_) | refine zt ?_ | refine zf ?_ | refine br_i (fun h => ?_) (fun h => ?_)) | refine zg ?_ | refine zi ?_ | refine zb ?_)
        all_goals conv => whnf
        all_goals first | rfl | contradiction
      · simp only [and_self, if_true]
        by_cases h : chk pn qn = 0
        · rw [numV_ok h] at Hn
          simp only [retS] at Hn
          by_cases e : wrtV pn qn = s
          · rw [backV_yes h e]
            repeat' ((conv => whnf); first | (with_reducible first | refine br_t ?_ | refine br_f ?_ | refine za ?_ | refine zg ?_) | refine zsl ?_ | refine zsg ?_ | refine zss ?_ | refine zs1 ?_ | refine zse ?_ | refine zsn ?_ | refine zsc ?_ | (with_reducible first | refine zpa ?_ | refine zqa ?_) | refine zp ?_ | refine zq ?_ | (with_reducible first | refine bc (fun h => ?_) (fun h => ?_) | refine zt ?_ | refine zf ?_ | refine br_i (fun h => ?_) (fun h => ?_)) | refine zg ?_ | refine zi ?_ | refine zb ?_)
            all_goals conv => whnf
            all_goals first | rfl | contradiction
          · rw [backV_ne e]
            repeat' ((conv => whnf); first | (with_reducible first | refine br_t ?_ | refine br_f ?_ | refine za ?_ | refine zg ?_) | refine zsl ?_ | refine zsg ?_ | refine zss ?_ | refine zs1 ?_ | refine zse ?_ | refine zsn ?_ | refine zsc ?_ | (with_reducible first | refine zpa ?_ | refine zqa ?_) | refine zp ?_ | refine zq ?_ | (with_reducible first | refine bc (fun h => ?_) (fun h => ?_) | refine zt ?_ | refine zf ?_ | refine br_i (fun h => ?_) (fun h => ?_)) | refine zg ?_ | refine zi ?_ | refine zb ?_)
            all_goals conv => whnf
            all_goals first | rfl | contradiction
        · rw [backV_nc h]
          rw [numV_no h] at Hn
          simp only [retS] at Hn
          repeat' ((conv => whnf); first | (with_reducible first | refine br_t ?_ | refine br_f ?_ | refine za ?_ | refine zg ?_) | refine zsl ?_ | refine zsg ?_ | refine zss ?_ | refine zs1 ?_ | refine zse ?_ | refine zsn ?_ | refine zsc ?_ | (with_reducible first | refine zpa ?_ | refine zqa ?_) | refine zp ?_ | refine zq ?_ | (with_reducible first | refine bc (fun h => ?_) (fun h => ?_) | refine zt ?_ | refine zf ?_ | refine br_i (fun h => ?_) (fun h => ?_)) | refine zg ?_ | refine zi ?_ | refine zb ?_)
          all_goals conv => whnf
          all_goals first | rfl | contradiction
end Go.Proofs.YtgdpogdgpfjnoaaDoor

namespace Go.Proofs.YtgdpogdgpfjnoaaDoor
open Go Go.RowKit Go.Sort Sx
open Go.Lib hiding intOf
theorem fit_in {n : Int} (h : fitI n) : i64in n := ⟨by have := h.1; omega, h.2⟩
theorem cutP_no {s : Str} {i f : Nat} {b c : UInt8} (hb : s[i]? = some b) (hf : f ≤ i) (h : c ∉ (s.take i).drop f) (hne : b ≠ c) : c ∉ (s.take (i + 1)).drop f := by
  obtain ⟨hlt, e⟩ := List.getElem?_eq_some_iff.1 hb
  rw [List.take_succ_eq_append_getElem hlt, List.drop_append_of_le_length (by rw [List.length_take]; omega), e]
  intro k
  rcases List.mem_append.1 k with k | k
  · exact h k
  · exact hne (List.mem_singleton.1 k).symm
theorem cutP_at {s : Str} {i f : Nat} {c : UInt8} (hb : s[i]? = some c) (hf : f ≤ i) (h : c ∉ (s.take i).drop f) : spl c (s.drop f) = (s.take i).drop f :: spl c (s.drop (i + 1)) := by
  obtain ⟨hlt, e⟩ := List.getElem?_eq_some_iff.1 hb
  have : s.drop f = (s.take i).drop f ++ c :: s.drop (i + 1) := by
    have h1 : s = s.take i ++ c :: s.drop (i + 1) := by
      conv => lhs; rw [← List.take_append_drop i s, List.drop_eq_getElem_cons hlt, e]
    conv => lhs; rw [h1]
    rw [List.drop_append_of_le_length (by rw [List.length_take]; omega)]
  rw [this, spl_at _ h]
theorem cutP_end {s : Str} {f : Nat} {c : UInt8} (h : c ∉ (s.take s.length).drop f) : spl c (s.drop f) = [(s.take s.length).drop f] := by
  rw [List.take_length] at h ⊢
  exact spl_no h
theorem rcCut_fn (s : Str) (c : UInt8) (hs : s.length ≤ 100000) : FnOK Tryd.prog 25 [.one (str s), .one (.v (.int .u8 (c.toNat : Int)))] (.c (.one (strs (spl c s)))) := by
  refine fn_ok (by kernel_rfl) (ty_okK [5, 31] [] [] []) Tryd.func25 rfl (fun _ _ => Tryd.call25 _ _) rfl ?_
  intro hw
  clear hw
  repeat' ((conv => whnf); first | (with_reducible first | refine br_t ?_ | refine br_f ?_ | refine za ?_ | refine zg ?_ | refine zo ?_) | refine zsl ?_ | refine zsg ?_ | refine zss ?_ | refine zs1 ?_ | refine zse ?_ | refine zsn ?_ | refine zsc ?_ | (with_reducible first | refine zpa ?_ | refine zqa ?_) | refine zp ?_ | refine zq ?_ | (with_reducible first | refine bc (fun h => ?_) (fun h => ?_) | refine zt ?_ | refine zf ?_ | refine br_i (fun h => ?_) (fun h => ?_)) | refine zg ?_ | refine zi ?_ | refine zb ?_ | refine zl ?_)
  refine loop_J (by kernel_rfl) (ty_okK [5, 31] [] [] []) (σ := Nat × Nat × List Str) (fun q => [(7, sV (.int .i64 (q.1 : Nat))), (6, sV (.int .i64 (q.2.1 : Nat))), (5, .c (.at (.osl 5 0)))]) (fun q => [(5, .row 1 (q.2.2.map fun s => [str s]) 0)]) (fun q => (q.1 ≤ s.length ∧ q.2.1 ≤ q.1 ∧ c ∉ (s.take q.1).drop q.2.1 ∧ q.2.2 ++ spl c (s.drop q.2.1) = spl c s) ∨ (q.1 = s.length + 1 ∧ q.2.1 = s.length + 1 ∧ q.2.2 = spl c s)) (fun q => s.length + 1 - q.1) (0, 0, []) (.inl ⟨Nat.zero_le _, Nat.le_refl _, by simp, rfl⟩) ?_ ?_
  · (conv => whnf); exact zent
  · rintro ⟨i, f, L⟩ hI
    simp only at hI ⊢
    rcases hI with ⟨hi, hf, hno, hL⟩ | ⟨rfl, rfl, rfl⟩
    · have hpl : L.length ≤ 100001 := by
        have h1 := spl_len c s
        have : (L ++ spl c (s.drop f)).length ≤ s.length + 1 := by rw [hL]; exact h1
        rw [List.length_append] at this
        omega
      by_cases hil : i = s.length
      · subst hil
        repeat' ((conv => whnf); first | (with_reducible first | refine br_t ?_ | refine br_f ?_ | refine za ?_ | refine zg ?_ | refine zo ?_) | refine zsl ?_ | refine zsg ?_ | refine zss ?_ | refine zs1 ?_ | refine zse ?_ | refine zsn ?_ | refine zsc ?_ | (with_reducible first | refine zpa ?_ | refine zqa ?_) | refine zp ?_ | refine zq ?_ | (with_reducible first | refine bc (fun h => ?_) (fun h => ?_) | refine zt ?_ | refine zf ?_ | refine br_i (fun h => ?_) (fun h => ?_)) | refine zg ?_ | refine zi ?_ | refine zb ?_ | refine zl ?_)
        all_goals conv => whnf
        refine ⟨(s.length + 1, s.length + 1, L ++ [(s.take s.length).drop f]), .inr ⟨rfl, rfl, ?_⟩, ?_, by simp only; omega⟩
        · simp only
          rw [← hL, cutP_end hno]
        · simp only [List.map_append, List.map_cons, List.map_nil]
          have e1 : IntKind.i64.wrap ((s.length : Int) + 1) = ((s.length + 1 : Nat) : Int) := by rw [IntWalk.i64_in _ (by omega)]; omega
          rw [← e1]
          (conv => whnf); exact zent
      · have hi2 : i < s.length := by omega
        obtain ⟨b, hb⟩ : ∃ b, s[i]? = some b := ⟨_, List.getElem?_eq_getElem hi2⟩
        have hg : s[(i : Int).toNat]? = some b := by rw [Int.toNat_natCast]; exact hb
        by_cases hbc : b = c
        · subst hbc
          repeat' ((conv => whnf); first | (with_reducible first | refine br_t ?_ | refine br_f ?_ | refine za ?_ | refine zg ?_ | refine zo ?_) | refine zsl ?_ | refine zsg ?_ | refine zss ?_ | refine zs1 ?_ | refine zse ?_ | refine zsn ?_ | refine zsc ?_ | (with_reducible first | refine zpa ?_ | refine zqa ?_) | refine zp ?_ | refine zq ?_ | (with_reducible first | refine bc (fun h => ?_) (fun h => ?_) | refine zt ?_ | refine zf ?_ | refine br_i (fun h => ?_) (fun h => ?_)) | refine zg ?_ | refine zi ?_ | refine zb ?_ | refine zl ?_)
          all_goals conv => whnf
          have e1 : IntKind.i64.wrap ((i : Int) + 1) = ((i + 1 : Nat) : Int) := by rw [IntWalk.i64_in _ (by omega)]; omega
          refine ⟨(i + 1, i + 1, L ++ [(s.take i).drop f]), .inl ⟨by simp only; omega, Nat.le_refl _, by simp, ?_⟩, ?_, by simp only; omega⟩
          · simp only
            rw [← hL, cutP_at hb hf hno, List.append_assoc]; rfl
          · simp only [List.map_append, List.map_cons, List.map_nil]
            rw [← e1]
            (conv => whnf); exact zent
        · have hbn : (b.toNat : Int) ≠ (c.toNat : Int) := fun h => hbc (UInt8.toNat_inj.1 (by omega))
          repeat' ((conv => whnf); first | (with_reducible first | refine br_t ?_ | refine br_f ?_ | refine za ?_ | refine zg ?_ | refine zo ?_) | refine zsl ?_ | refine zsg ?_ | refine zss ?_ | refine zs1 ?_ | refine zse ?_ | refine zsn ?_ | refine zsc ?_ | (with_reducible first | refine zpa ?_ | refine zqa ?_) | refine zp ?_ | refine zq ?_ | (with_reducible first | refine bc (fun h => ?_) (fun h => ?_) | refine zt ?_ | refine zf ?_ | refine br_i (fun h => ?_) (fun h => ?_)) | refine zg ?_ | refine zi ?_ | refine zb ?_ | refine zl ?_)
          all_goals conv => whnf
          have e1 : IntKind.i64.wrap ((i : Int) + 1) = ((i + 1 : Nat) : Int) := by rw [IntWalk.i64_in _ (by omega)]; omega
          refine ⟨(i + 1, f, L), .inl ⟨by simp only; omega, by simp only; omega, cutP_no hb hf hno hbc, hL⟩, ?_, by simp only; omega⟩
          simp only
          rw [← e1]
          (conv => whnf); exact zent
    · repeat' ((conv => whnf); first | (with_reducible first | refine br_t ?_ | refine br_f ?_ | refine za ?_ | refine zg ?_ | refine zo ?_) | refine zsl ?_ | refine zsg ?_ | refine zss ?_ | refine zs1 ?_ | refine zse ?_ | refine zsn ?_ | refine zsc ?_ | (with_reducible first | refine zpa ?_ | refine zqa ?_) | refine zp ?_ | refine zq ?_ | (with_reducible first | refine bc (fun h => ?_) (fun h => ?_) | refine zt ?_ | refine zf ?_ | refine br_i (fun h => ?_) (fun h => ?_)) | refine zg ?_ | refine zi ?_ | refine zb ?_ | refine zl ?_)
      all_goals conv => whnf
      all_goals rfl
end Go.Proofs.YtgdpogdgpfjnoaaDoor

namespace Go.Proofs.YtgdpogdgpfjnoaaDoor
open Go.RowKit Go.Sort Sx
theorem askd_ok {n d : Int} (h : askd n d = 0) : chk n d = 0 ∧ -1073741824 ≤ n ∧ n ≤ 1073741824 ∧ 1 ≤ d ∧ d ≤ 1024 := by
  unfold askd at h
  split at h
  · rename_i h1; exact absurd h h1
  · rename_i h1
    have h1 : chk n d = 0 := by omega
    have := (chk_iff n d).1 h1
    split at h
    · omega
    · exact ⟨h1, by omega⟩
def dst (p q : Pt) (n m : Int) : Int × Int := (((outQ (qv ((p.a - q.a) * m + (p.b - q.b) * n) m)).1.natAbs : Int), (outQ (qv ((p.a - q.a) * m + (p.b - q.b) * n) m)).2.1)
end Go.Proofs.YtgdpogdgpfjnoaaDoor
