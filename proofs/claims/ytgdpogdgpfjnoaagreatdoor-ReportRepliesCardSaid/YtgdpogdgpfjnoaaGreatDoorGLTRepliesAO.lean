import Derived.Test.YtgdpogdgpfjnoaaGreatDoorGLTRepliesAM
import Derived.Test.YtgdpogdgpfjnoaaGreatDoorGLTRepliesAN
import Derived.Test.YtgdpogdgpfjnoaaGreatDoorGLTRepliesAL
import Derived.Test.YtgdpogdgpfjnoaaGreatDoorGLTRepliesAJ
import Derived.ScopeJumps
import Derived.WalkMore
import Derived.Lib.Split
import Derived.Lib.Join
import Derived.Lib.CutLaws
import Derived.RangeFuncFrom
import Derived.RangeFuncLeaves
import Derived.RangeFuncBox
import Derived.WalkKit
import Derived.OwnWalkIn
import Derived.TacticsInMore
import Derived.RegionIn
import Derived.LoopNIn
import Derived.LoopIn
import Derived.RangeFuncCalls
set_option linter.all false
namespace Go.Proofs.YtgdpogdgpfjnoaaGreatDoor
open Go Go.RowKit Go.Sort Sx
open Go.Lib hiding intOf
theorem fmt_fn {n : Int} : FnOK Tryz.prog 82 [.one (i64 n), .one (i64 10)] (.c (.one (str (itoa n)))) :=
  fn_of_callsG (fun _ _ => Tryz.call82 _ _) rfl rfl (fun _ => .v trivial) (fun h w hg => by
    have hb := wd_i64.1 h.1
    exact (Tryz.strconv_FormatInt_10 n hb.1 hb.2 w hg.tab).mono fun e w' ⟨he, k, os, hw⟩ => ⟨he, by rw [hw]; exact below_regrown w (w.drawn + k) os⟩)
theorem ito_fn {n : Int} : FnOK Tryz.prog 83 [.one (i64 n)] (.c (.one (str (itoa n)))) :=
  fn_of_callsG (fun _ _ => Tryz.call83 _ _) rfl rfl (fun _ => .v trivial) (fun h w hg => by
    have hb := wd_i64.1 h.1
    exact (Tryz.strconv_Itoa n hb.1 hb.2 w hg.tab).mono fun e w' ⟨he, k, os, hw⟩ => ⟨he, by rw [hw]; exact below_regrown w (w.drawn + k) os⟩)
theorem pre_fn {s p : Str} : FnOK Tryz.prog 200 [.one (str s), .one (str p)] (.c (.one (bol (Lib.hasPrefix s p)))) :=
  fn_of_callsG (fun _ _ => Tryz.call200 _ _) rfl rfl (fun _ => .v trivial) (fun h w hg => (Tryz.strings_HasPrefix ⟨s.toArray⟩ ⟨p.toArray⟩ w).mono fun e w' ⟨he, hw⟩ => ⟨he, hw ▸ Below.refl _ _⟩)
def finW (s : Str) (fr : Nat) (R : Option Nat) : Int × Bool := match R with
  | some n => (if fr = 1 then -(n : Int) else n, decide (itoa (if fr = 1 then -(n : Int) else n) = s))
  | none => (0, false)
theorem finW_1 {s : Str} {fr n : Nat} (h : fr = 1) : finW s fr (some n) = (-(n : Int), decide (itoa (-(n : Int)) = s)) := by subst h; rfl
theorem finW_0 {s : Str} {fr n : Nat} (h : fr ≠ 1) : finW s fr (some n) = ((n : Int), decide (itoa (n : Int) = s)) := by unfold finW; dsimp only; rw [if_neg h]
theorem wholeV_fin (s : Str) : wholeV s = finW s (if Lib.hasPrefix s [45] then 1 else 0) (rdP 0 (s.drop (if Lib.hasPrefix s [45] then 1 else 0))) := by
  unfold wholeV Lib.hasPrefix
  split
  · rename_i r
    have e : ([45] : Str).isPrefixOf (45 :: r) = true := rfl
    rw [e]
    simp only [if_true, List.drop_succ_cons, List.drop_zero]
    rfl
  · rename_i h
    have e : ([45] : Str).isPrefixOf s = false := by
      cases s with
      | nil => rfl
      | cons b r =>
        have hb : b ≠ 45 := fun e => h r (by rw [e])
        simp [List.isPrefixOf, Ne.symm hb]
    rw [e]
    rfl
theorem digit_no {b : UInt8} (h : digitVal b = none) : ¬ (48 ≤ b.toNat ∧ b.toNat ≤ 57) := fun k => by
  unfold digitVal at h
  rw [if_pos k] at h; cases h
theorem digit_some {b : UInt8} {d : Nat} (h : digitVal b = some d) : 48 ≤ b.toNat ∧ b.toNat ≤ 57 ∧ d = b.toNat - 48 := digitVal_eq h
theorem byte_no {b : UInt8} (h : digitVal b = none) : IntKind.u8.wrap ((b.toNat : Int) - 48) > 9 := by
  have h1 := digit_no h
  have h2 := b.toNat_lt
  rw [IntKind.wrap_u8]
  omega
theorem byte_some {b : UInt8} {d : Nat} (h : digitVal b = some d) : d ≤ 9 ∧ IntKind.u8.wrap ((b.toNat : Int) - 48) = (d : Int) := by
  have h1 := digit_some h
  rw [IntKind.wrap_u8]
  omega
theorem quo_of {d : Nat} (h : d ≤ 9) : IntKind.i64.wrap ((IntKind.i64.wrap (9223372036854775807 - IntKind.i64.wrap (d : Int))).tdiv 10) = (9223372036854775807 - (d : Int)) / 10 := by
  rw [IntWalk.i64_in (d : Int) (by omega), IntWalk.i64_in (9223372036854775807 - (d : Int)) (by omega), Int.tdiv_eq_ediv_of_nonneg (by omega), IntWalk.i64_in _ (by omega)]
abbrev retWh (x : Int × Bool) : DV := .tup [.one (i64 x.1), .one (bol x.2)]
theorem whole_fn (s : Str) (hs : s.length ≤ 1000000) : FnOK Tryz.prog 147 [.one (str s)] (retWh (wholeV s)) := by
  have hpre := @pre_fn s [45]
  rw [wholeV_fin]
  generalize hp : Lib.hasPrefix s [45] = p at *
  have hfl : (if p = true then 1 else 0) ≤ s.length := by
    cases p with
    | false => exact Nat.zero_le _
    | true =>
      cases s with
      | nil => cases hp
      | cons b r => simp
  have hfr : (if p = true then 1 else 0) = 0 ∨ (if p = true then 1 else 0) = 1 := by cases p <;> simp
  obtain ⟨fr, hfe⟩ : ∃ fr : Nat, fr = if p = true then 1 else 0 := ⟨_, rfl⟩
  rw [← hfe] at hfl hfr ⊢
  generalize hR : rdP 0 (s.drop fr) = R
  have hfm : ∀ n : Int, FnOK Tryz.prog 82 [.one (i64 n), .one (i64 10)] (.c (.one (str (itoa n)))) := fun n => fmt_fn
  refine fn_ok (by kernel_rfl) ty_ok Tryz.func147 rfl (fun _ _ => Tryz.call147 _ _) rfl ?_
  intro hw
  clear hw
  refine scope_J (by kernel_rfl) ty_ok 0 (σ := Nat × Nat) (fun q => [(2, sV (.int .i64 0)), (3, sV (.bool false)), (4, sV (.int .i64 (q.1 : Nat))), (5, sV (.int .i64 (q.2 : Nat))), (6, sV (.int .i64 (fr : Nat)))]) (fun _ => []) (fun q => fr ≤ q.2 ∧ q.2 ≤ s.length ∧ q.1 ≤ 9223372036854775807 ∧ rdP q.1 (s.drop q.2) = R) (fun q => s.length - q.2) rfl ?_ ?_
  · cases p
    · have hfe : fr = 0 := hfe
      subst hfe
      cases hb : s[0]? with
      | none =>
        have hk : 0 = s.length := by
          have := List.getElem?_eq_none_iff.1 hb
          omega
        rw [show s.drop 0 = [] from List.drop_eq_nil_of_le (by omega), rdP] at hR
        subst hR
        have en : IntKind.i64.wrap (0 - 0) = 0 := by rw [IntWalk.i64_in _ (by omega)]; omega
        repeat' ((conv => whnf); first | (with_reducible first | refine br_t ?_ | refine br_f ?_ | refine za ?_ | refine zg ?_) | refine za ?_ fmt_fn | refine zsl ?_ | refine zsg ?_ | refine zss ?_ | refine zs1 ?_ | refine zse ?_ | refine zsn ?_ | refine zsc ?_ | (with_reducible first | refine zpa ?_ | refine zqa ?_) | refine zp ?_ | refine zq ?_ | (with_reducible first | refine bc (fun h => ?_) (fun h => ?_) | refine zt ?_ | refine zf ?_ | refine br_i (fun h => ?_) (fun h => ?_)) | refine zg ?_ | refine zi ?_ | refine zb ?_)
        all_goals conv => whnf
        all_goals (first | (rw [en, finW_1 (by omega)]; rfl) | (rw [finW_0 (by omega)]; rfl))
      | some b =>
        have hk : 0 < s.length := (List.getElem?_eq_some_iff.1 hb).1
        have hg : s[((0 : Int)).toNat]? = some b := by rw [show ((0 : Int)).toNat = 0 from rfl]; exact hb
        have hdr : s.drop 0 = b :: s.drop 1 := by rw [List.drop_eq_getElem_cons hk, (List.getElem?_eq_some_iff.1 hb).2]
        rw [hdr, rdP] at hR
        cases hd : digitVal b with
        | none =>
          rw [hd] at hR
          dsimp only at hR
          subst hR
          have hc := byte_no hd
          repeat' ((conv => whnf); first | (with_reducible first | refine br_t ?_ | refine br_f ?_ | refine za ?_ | refine zg ?_) | refine za ?_ fmt_fn | refine zsl ?_ | refine zsg ?_ | refine zss ?_ | refine zs1 ?_ | refine zse ?_ | refine zsn ?_ | refine zsc ?_ | (with_reducible first | refine zpa ?_ | refine zqa ?_) | refine zp ?_ | refine zq ?_ | (with_reducible first | refine bc (fun h => ?_) (fun h => ?_) | refine zt ?_ | refine zf ?_ | refine br_i (fun h => ?_) (fun h => ?_)) | refine zg ?_ | refine zi ?_ | refine zb ?_)
          all_goals conv => whnf
          all_goals rfl
        | some d =>
          rw [hd] at hR
          simp only [Nat.mul_zero, Nat.zero_add] at hR
          obtain ⟨hd9, hc⟩ := byte_some hd
          have hq := quo_of hd9
          rw [← hc] at hq
          have h4 : d ≤ 9223372036854775807 → IntKind.i64.wrap (IntKind.i64.wrap (10 * 0) + IntKind.i64.wrap (IntKind.u8.wrap ((b.toNat : Int) - 48))) = ((d : Nat) : Int) := fun h => by
            rw [hc, show IntKind.i64.wrap (10 * 0) = 0 from by decide, IntWalk.i64_in (d : Int) (by omega), IntWalk.i64_in _ (by omega)]; omega
          by_cases hle : d ≤ 9223372036854775807
          · rw [if_pos hle] at hR
            have h4 := h4 hle
            repeat' ((conv => whnf); first | (with_reducible first | refine br_t ?_ | refine br_f ?_ | refine za ?_ | refine zg ?_) | refine za ?_ fmt_fn | refine zsl ?_ | refine zsg ?_ | refine zss ?_ | refine zs1 ?_ | refine zse ?_ | refine zsn ?_ | refine zsc ?_ | (with_reducible first | refine zpa ?_ | refine zqa ?_) | refine zp ?_ | refine zq ?_ | (with_reducible first | refine bc (fun h => ?_) (fun h => ?_) | refine zt ?_ | refine zf ?_ | refine br_i (fun h => ?_) (fun h => ?_)) | refine zg ?_ | refine zi ?_ | refine zb ?_)
            all_goals conv => whnf
            refine ⟨(d, 1), ⟨by simp only; omega, by simp only; omega, hle, hR⟩, ?_⟩
            (conv => whnf); exact zent
          · exact absurd (by omega) hle
    · have hfe : fr = 1 := hfe
      subst hfe
      cases hb : s[1]? with
      | none =>
        have hk : 1 = s.length := by
          have := List.getElem?_eq_none_iff.1 hb
          omega
        rw [show s.drop 1 = [] from List.drop_eq_nil_of_le (by omega), rdP] at hR
        subst hR
        have en : IntKind.i64.wrap (0 - 0) = 0 := by rw [IntWalk.i64_in _ (by omega)]; omega
        repeat' ((conv => whnf); first | (with_reducible first | refine br_t ?_ | refine br_f ?_ | refine za ?_ | refine zg ?_) | refine za ?_ fmt_fn | refine zsl ?_ | refine zsg ?_ | refine zss ?_ | refine zs1 ?_ | refine zse ?_ | refine zsn ?_ | refine zsc ?_ | (with_reducible first | refine zpa ?_ | refine zqa ?_) | refine zp ?_ | refine zq ?_ | (with_reducible first | refine bc (fun h => ?_) (fun h => ?_) | refine zt ?_ | refine zf ?_ | refine br_i (fun h => ?_) (fun h => ?_)) | refine zg ?_ | refine zi ?_ | refine zb ?_)
        all_goals conv => whnf
        all_goals (first | (rw [en, finW_1 (by omega)]; rfl) | (rw [finW_0 (by omega)]; rfl))
      | some b =>
        have hk : 1 < s.length := (List.getElem?_eq_some_iff.1 hb).1
        have hg : s[((1 : Int)).toNat]? = some b := by rw [show ((1 : Int)).toNat = 1 from rfl]; exact hb
        have hdr : s.drop 1 = b :: s.drop 2 := by rw [List.drop_eq_getElem_cons hk, (List.getElem?_eq_some_iff.1 hb).2]
        rw [hdr, rdP] at hR
        cases hd : digitVal b with
        | none =>
          rw [hd] at hR
          dsimp only at hR
          subst hR
          have hc := byte_no hd
          repeat' ((conv => whnf); first | (with_reducible first | refine br_t ?_ | refine br_f ?_ | refine za ?_ | refine zg ?_) | refine za ?_ fmt_fn | refine zsl ?_ | refine zsg ?_ | refine zss ?_ | refine zs1 ?_ | refine zse ?_ | refine zsn ?_ | refine zsc ?_ | (with_reducible first | refine zpa ?_ | refine zqa ?_) | refine zp ?_ | refine zq ?_ | (with_reducible first | refine bc (fun h => ?_) (fun h => ?_) | refine zt ?_ | refine zf ?_ | refine br_i (fun h => ?_) (fun h => ?_)) | refine zg ?_ | refine zi ?_ | refine zb ?_)
          all_goals conv => whnf
          all_goals rfl
        | some d =>
          rw [hd] at hR
          simp only [Nat.mul_zero, Nat.zero_add] at hR
          obtain ⟨hd9, hc⟩ := byte_some hd
          have hq := quo_of hd9
          rw [← hc] at hq
          have h4 : d ≤ 9223372036854775807 → IntKind.i64.wrap (IntKind.i64.wrap (10 * 0) + IntKind.i64.wrap (IntKind.u8.wrap ((b.toNat : Int) - 48))) = ((d : Nat) : Int) := fun h => by
            rw [hc, show IntKind.i64.wrap (10 * 0) = 0 from by decide, IntWalk.i64_in (d : Int) (by omega), IntWalk.i64_in _ (by omega)]; omega
          by_cases hle : d ≤ 9223372036854775807
          · rw [if_pos hle] at hR
            have h4 := h4 hle
            repeat' ((conv => whnf); first | (with_reducible first | refine br_t ?_ | refine br_f ?_ | refine za ?_ | refine zg ?_) | refine za ?_ fmt_fn | refine zsl ?_ | refine zsg ?_ | refine zss ?_ | refine zs1 ?_ | refine zse ?_ | refine zsn ?_ | refine zsc ?_ | (with_reducible first | refine zpa ?_ | refine zqa ?_) | refine zp ?_ | refine zq ?_ | (with_reducible first | refine bc (fun h => ?_) (fun h => ?_) | refine zt ?_ | refine zf ?_ | refine br_i (fun h => ?_) (fun h => ?_)) | refine zg ?_ | refine zi ?_ | refine zb ?_)
            all_goals conv => whnf
            refine ⟨(d, 2), ⟨by simp only; omega, by simp only; omega, hle, hR⟩, ?_⟩
            (conv => whnf); exact zent
          · exact absurd (by omega) hle
  · rintro ⟨n, k⟩ ⟨hk1, hk2, hn, hrd⟩
    simp only at hk1 hk2 hn hrd ⊢
    cases hb : s[k]? with
    | none =>
      have hk : k = s.length := by
        have := List.getElem?_eq_none_iff.1 hb
        omega
      subst hk
      rw [List.drop_length, rdP] at hrd
      subst hrd
      have en : IntKind.i64.wrap (0 - (n : Int)) = -(n : Int) := by rw [IntWalk.i64_in _ (by omega)]; omega
      repeat' ((conv => whnf); first | (with_reducible first | refine br_t ?_ | refine br_f ?_ | refine za ?_ | refine zg ?_) | refine za ?_ fmt_fn | refine zsl ?_ | refine zsg ?_ | refine zss ?_ | refine zs1 ?_ | refine zse ?_ | refine zsn ?_ | refine zsc ?_ | (with_reducible first | refine zpa ?_ | refine zqa ?_) | refine zp ?_ | refine zq ?_ | (with_reducible first | refine bc (fun h => ?_) (fun h => ?_) | refine zt ?_ | refine zf ?_ | refine br_i (fun h => ?_) (fun h => ?_)) | refine zg ?_ | refine zi ?_ | refine zb ?_)
      all_goals conv => whnf
      · rw [en, finW_1 (by omega)]
      · rw [finW_0 (by omega)]
    | some b =>
      have hk : k < s.length := (List.getElem?_eq_some_iff.1 hb).1
      have hg : s[(k : Int).toNat]? = some b := by rw [Int.toNat_natCast]; exact hb
      have hdr : s.drop k = b :: s.drop (k + 1) := by rw [List.drop_eq_getElem_cons hk, (List.getElem?_eq_some_iff.1 hb).2]
      rw [hdr, rdP] at hrd
      cases hd : digitVal b with
      | none =>
        rw [hd] at hrd
        dsimp only at hrd
        subst hrd
        have hc := byte_no hd
        repeat' ((conv => whnf); first | (with_reducible first | refine br_t ?_ | refine br_f ?_ | refine za ?_ | refine zg ?_) | refine za ?_ fmt_fn | refine zsl ?_ | refine zsg ?_ | refine zss ?_ | refine zs1 ?_ | refine zse ?_ | refine zsn ?_ | refine zsc ?_ | (with_reducible first | refine zpa ?_ | refine zqa ?_) | refine zp ?_ | refine zq ?_ | (with_reducible first | refine bc (fun h => ?_) (fun h => ?_) | refine zt ?_ | refine zf ?_ | refine br_i (fun h => ?_) (fun h => ?_)) | refine zg ?_ | refine zi ?_ | refine zb ?_)
        all_goals conv => whnf
        all_goals rfl
      | some d =>
        rw [hd] at hrd
        dsimp only at hrd
        obtain ⟨hd9, hc⟩ := byte_some hd
        have hq := quo_of hd9
        rw [← hc] at hq
        have h4 : 10 * n + d ≤ 9223372036854775807 → IntKind.i64.wrap (IntKind.i64.wrap (10 * (n : Int)) + IntKind.i64.wrap (IntKind.u8.wrap ((b.toNat : Int) - 48))) = ((10 * n + d : Nat) : Int) := fun h => by
          rw [hc, IntWalk.i64_in (10 * (n : Int)) (by omega), IntWalk.i64_in (d : Int) (by omega), IntWalk.i64_in _ (by omega)]; omega
        by_cases hle : 10 * n + d ≤ 9223372036854775807
        · rw [if_pos hle] at hrd
          have h4 := h4 hle
          repeat' ((conv => whnf); first | (with_reducible first | refine br_t ?_ | refine br_f ?_ | refine za ?_ | refine zg ?_) | refine za ?_ fmt_fn | refine zsl ?_ | refine zsg ?_ | refine zss ?_ | refine zs1 ?_ | refine zse ?_ | refine zsn ?_ | refine zsc ?_ | (with_reducible first | refine zpa ?_ | refine zqa ?_) | refine zp ?_ | refine zq ?_ | (with_reducible first | refine bc (fun h => ?_) (fun h => ?_) | refine zt ?_ | refine zf ?_ | refine br_i (fun h => ?_) (fun h => ?_)) | refine zg ?_ | refine zi ?_ | refine zb ?_)
          all_goals conv => whnf
          refine ⟨(10 * n + d, k + 1), ⟨by simp only; omega, by simp only; omega, hle, hrd⟩, ?_, by simp only; omega⟩
          (conv => whnf); exact zent
        · rw [if_neg hle] at hrd
          subst hrd
          repeat' ((conv => whnf); first | (with_reducible first | refine br_t ?_ | refine br_f ?_ | refine za ?_ | refine zg ?_) | refine za ?_ fmt_fn | refine zsl ?_ | refine zsg ?_ | refine zss ?_ | refine zs1 ?_ | refine zse ?_ | refine zsn ?_ | refine zsc ?_ | (with_reducible first | refine zpa ?_ | refine zqa ?_) | refine zp ?_ | refine zq ?_ | (with_reducible first | refine bc (fun h => ?_) (fun h => ?_) | refine zt ?_ | refine zf ?_ | refine br_i (fun h => ?_) (fun h => ?_)) | refine zg ?_ | refine zi ?_ | refine zb ?_)
          all_goals conv => whnf
          all_goals rfl
end Go.Proofs.YtgdpogdgpfjnoaaGreatDoor

namespace Go.Proofs.YtgdpogdgpfjnoaaGreatDoor
open Go.RowKit Go.Sort Sx Go.Lib
def spl (c : UInt8) : Str → List Str
  | [] => [[]]
  | b :: l => if b = c then [] :: spl c l else match spl c l with | h :: t => (b :: h) :: t | [] => [[b]]
def cut1 (c : UInt8) : Str → Str × Str × Bool
  | [] => ([], [], false)
  | b :: l => if b = c then ([], l, true) else (b :: (cut1 c l).1, (cut1 c l).2.1, (cut1 c l).2.2)
theorem spl_at {c : UInt8} : ∀ {a : Str} (r : Str), c ∉ a → spl c (a ++ c :: r) = a :: spl c r
  | [], r, _ => by rw [List.nil_append, spl, if_pos rfl]
  | b :: a, r, h => by
    rw [List.cons_append, spl, if_neg (fun e => h (by rw [e]; exact List.mem_cons_self ..)), spl_at r (fun k => h (List.mem_cons_of_mem _ k))]
theorem spl_no {c : UInt8} : ∀ {a : Str}, c ∉ a → spl c a = [a]
  | [], _ => rfl
  | b :: a, h => by
    rw [spl, if_neg (fun e => h (by rw [e]; exact List.mem_cons_self ..)), spl_no (fun k => h (List.mem_cons_of_mem _ k))]
theorem cut1_at {c : UInt8} : ∀ {a : Str} (r : Str), c ∉ a → cut1 c (a ++ c :: r) = (a, r, true)
  | [], r, _ => by rw [List.nil_append, cut1, if_pos rfl]
  | b :: a, r, h => by
    rw [List.cons_append, cut1, if_neg (fun e => h (by rw [e]; exact List.mem_cons_self ..)), cut1_at r (fun k => h (List.mem_cons_of_mem _ k))]
theorem cut1_no {c : UInt8} : ∀ {a : Str}, c ∉ a → cut1 c a = (a, [], false)
  | [], _ => rfl
  | b :: a, h => by
    rw [cut1, if_neg (fun e => h (by rw [e]; exact List.mem_cons_self ..)), cut1_no (fun k => h (List.mem_cons_of_mem _ k))]
theorem spl_ne (c : UInt8) : ∀ s : Str, spl c s ≠ []
  | [] => by simp [spl]
  | b :: l => by
    rw [spl]
    split
    · simp
    · split <;> simp
theorem itoa_mem {n : Int} {b : UInt8} (h : b ∈ itoa n) : b = 45 ∨ (48 ≤ b.toNat ∧ b.toNat ≤ 57) := by
  unfold itoa at h
  split at h
  · rcases List.mem_cons.1 h with h | h
    · exact .inl h
    · exact .inr (dec_mem _ b h)
  · exact .inr (dec_mem _ b h)
theorem itoa_no {n : Int} {c : UInt8} (h1 : c ≠ 45) (h2 : c.toNat < 48 ∨ 57 < c.toNat) : c ∉ itoa n := fun h => by
  rcases itoa_mem h with h | h
  · exact h1 h
  · omega
def wrtV (n d : Int) : Str := if d = 1 then itoa n else itoa n ++ 47 :: itoa d
def numV (n d : Int) : Str × Int := if chk n d = 0 then (wrtV n d, 0) else ([], 8)
def backV (s : Str) (n d : Int) : (Int × Int) × Int := if chk n d = 0 ∧ wrtV n d = s then ((n, d), 0) else ((0, 0), 12)
def readV (s : Str) : (Int × Int) × Int :=
  if (wholeV (cut1 47 s).1).2 = true ∧ ((cut1 47 s).2.2 = true → (wholeV (cut1 47 s).2.1).2 = true) then backV s (wholeV (cut1 47 s).1).1 (if (cut1 47 s).2.2 then (wholeV (cut1 47 s).2.1).1 else 1) else ((0, 0), 12)
def readR (s : Str) : (Int × Int) × Int :=
  if (wholeR ((spl 47 s)[0]?.getD [])).2 = true ∧ (1 < (spl 47 s).length → (wholeR ((spl 47 s)[1]?.getD [])).2 = true) then backV s (wholeR ((spl 47 s)[0]?.getD [])).1 (if 1 < (spl 47 s).length then (wholeR ((spl 47 s)[1]?.getD [])).1 else 1) else ((0, 0), 12)
structure IsRead (f : Str → (Int × Int) × Int) : Prop where
  ok : ∀ s, (f s).2 = 0 → chk (f s).1.1 (f s).1.2 = 0 ∧ wrtV (f s).1.1 (f s).1.2 = s
  no : ∀ s, (f s).2 ≠ 0 → f s = ((0, 0), 12)
  of : ∀ n d, chk n d = 0 → fitI n → fitI d → f (wrtV n d) = ((n, d), 0)
  fit : ∀ s, (f s).2 = 0 → fitI (f s).1.1 ∧ fitI (f s).1.2
theorem IsRead.eq {f g : Str → (Int × Int) × Int} (hf : IsRead f) (hg : IsRead g) (s : Str) : f s = g s := by
  have key : ∀ {f g : Str → (Int × Int) × Int}, IsRead f → IsRead g → (f s).2 = 0 → f s = g s := fun {f g} hf hg h => by
    obtain ⟨a, b⟩ := hf.ok s h
    obtain ⟨c, d⟩ := hf.fit s h
    have := hg.of _ _ a c d
    rw [b] at this
    rw [this, ← h]
  by_cases h : (f s).2 = 0
  · exact key hf hg h
  · by_cases h2 : (g s).2 = 0
    · exact (key hg hf h2).symm
    · rw [hf.no s h, hg.no s h2]
theorem IsRead.cases {f : Str → (Int × Int) × Int} (hf : IsRead f) (s : Str) : (∃ n d, chk n d = 0 ∧ fitI n ∧ fitI d ∧ wrtV n d = s ∧ f s = ((n, d), 0)) ∨ (f s = ((0, 0), 12) ∧ ∀ n d, chk n d = 0 → fitI n → fitI d → wrtV n d ≠ s) := by
  by_cases h : (f s).2 = 0
  · obtain ⟨a, b⟩ := hf.ok s h
    obtain ⟨c, d⟩ := hf.fit s h
    refine .inl ⟨_, _, a, c, d, b, ?_⟩
    rw [← h]
  · refine .inr ⟨hf.no s h, fun n d h1 h2 h3 e => ?_⟩
    have := hf.of n d h1 h2 h3
    rw [e] at this
    rw [this] at h; exact h rfl
theorem backV_ok {s : Str} {n d : Int} (h : (backV s n d).2 = 0) : chk (backV s n d).1.1 (backV s n d).1.2 = 0 ∧ wrtV (backV s n d).1.1 (backV s n d).1.2 = s := by
  unfold backV at h ⊢
  split at h
  · rename_i c; rw [if_pos c]; exact c
  · cases h
theorem backV_fit {s : Str} {n d : Int} (hn : fitI n) (hd : fitI d) : fitI (backV s n d).1.1 ∧ fitI (backV s n d).1.2 := by
  unfold backV
  split
  · exact ⟨hn, hd⟩
  · exact ⟨⟨by decide, by decide⟩, ⟨by decide, by decide⟩⟩
theorem backV_no {s : Str} {n d : Int} (h : (backV s n d).2 ≠ 0) : backV s n d = ((0, 0), 12) := by
  unfold backV at h ⊢
  split at h
  · exact absurd rfl h
  · rename_i c; rw [if_neg c]
theorem readV_is : IsRead readV := by
  refine ⟨fun s h => ?_, fun s h => ?_, fun n d hc hn hd => ?_, fun s h => ?_⟩
  · unfold readV at h ⊢
    split at h
    · rename_i c; rw [if_pos c]; exact backV_ok h
    · cases h
  · unfold readV at h ⊢
    split at h
    · rename_i c; rw [if_pos c]; exact backV_no h
    · rename_i c; rw [if_neg c]
  · have hb : ∀ s, wrtV n d = s → backV s n d = ((n, d), 0) := fun s e => by unfold backV; rw [if_pos ⟨hc, e⟩]
    have hno : (47 : UInt8) ∉ itoa n := itoa_no (by decide) (by decide)
    unfold readV
    by_cases h1 : d = 1
    · have e : wrtV n d = itoa n := by unfold wrtV; rw [if_pos h1]
      rw [e, cut1_no hno]
      dsimp only
      rw [whole_itoa hn, if_pos ⟨rfl, fun h => by cases h⟩]
      dsimp only
      rw [← h1]
      exact hb _ e
    · have e : wrtV n d = itoa n ++ 47 :: itoa d := by unfold wrtV; rw [if_neg h1]
      rw [e, cut1_at _ hno]
      dsimp only
      rw [whole_itoa hn, whole_itoa hd, if_pos ⟨rfl, fun _ => rfl⟩]
      dsimp only
      rw [if_pos rfl]
      exact hb _ e
  · unfold readV at h ⊢
    split at h
    · rename_i c
      rw [if_pos c]
      refine backV_fit (whole_ok c.1).1 ?_
      split
      · rename_i c2; exact (whole_ok (c.2 c2)).1
      · exact ⟨by decide, by decide⟩
    · cases h
theorem readR_is : IsRead readR := by
  refine ⟨fun s h => ?_, fun s h => ?_, fun n d hc hn hd => ?_, fun s h => ?_⟩
  · unfold readR at h ⊢
    split at h
    · rename_i c; rw [if_pos c]; exact backV_ok h
    · cases h
  · unfold readR at h ⊢
    split at h
    · rename_i c; rw [if_pos c]; exact backV_no h
    · rename_i c; rw [if_neg c]
  · have hb : ∀ s, wrtV n d = s → backV s n d = ((n, d), 0) := fun s e => by unfold backV; rw [if_pos ⟨hc, e⟩]
    have hno : (47 : UInt8) ∉ itoa n := itoa_no (by decide) (by decide)
    have hno2 : (47 : UInt8) ∉ itoa d := itoa_no (by decide) (by decide)
    unfold readR
    by_cases h1 : d = 1
    · have e : wrtV n d = itoa n := by unfold wrtV; rw [if_pos h1]
      rw [e, spl_no hno]
      simp only [List.length_cons, List.length_nil, List.getElem?_cons_zero, Option.getD_some]
      rw [wholeR_itoa hn, if_pos ⟨rfl, fun h => by omega⟩]
      dsimp only
      rw [if_neg (by decide), ← h1]
      exact hb _ e
    · have e : wrtV n d = itoa n ++ 47 :: itoa d := by unfold wrtV; rw [if_neg h1]
      rw [e, spl_at _ hno, spl_no hno2]
      simp only [List.length_cons, List.length_nil, List.getElem?_cons_zero, List.getElem?_cons_succ, Option.getD_some]
      rw [wholeR_itoa hn, wholeR_itoa hd, if_pos ⟨rfl, fun _ => rfl⟩]
      dsimp only
      rw [if_pos (by decide)]
      exact hb _ e
  · unfold readR at h ⊢
    split at h
    · rename_i c
      rw [if_pos c]
      refine backV_fit (wholeR_ok c.1).1 ?_
      split
      · rename_i c2; exact (wholeR_ok (c.2 c2)).1
      · exact ⟨by decide, by decide⟩
    · cases h
theorem chk_fit {n d : Int} (hc : chk n d = 0) (hn : -9223372036854775808 ≤ n ∧ n ≤ 9223372036854775807) (hd : -9223372036854775808 ≤ d ∧ d ≤ 9223372036854775807) : fitI n ∧ fitI d := by
  obtain ⟨h1, h2, _⟩ := (chk_iff n d).1 hc
  exact ⟨⟨by omega, by omega⟩, ⟨by omega, by omega⟩⟩
end Go.Proofs.YtgdpogdgpfjnoaaGreatDoor

namespace Go.Proofs.YtgdpogdgpfjnoaaGreatDoor
open Go.RowKit Go.Sort Sx Go.Lib
theorem idx_cons (c b : UInt8) (l : Str) : Lib.index (b :: l) [c] = if b = c then 0 else if Lib.index l [c] = -1 then -1 else Lib.index l [c] + 1 := by
  rw [Lib.index]
  have e : ([c] : Str).isPrefixOf (b :: l) = (c == b) := by simp [List.isPrefixOf]
  rw [e]
  by_cases h : b = c
  · subst h; simp
  · rw [if_neg h, if_neg (by simpa using fun k => h k.symm)]
    by_cases h2 : Lib.index l [c] = -1
    · rw [if_pos (by rw [h2]; rfl), if_pos h2]
    · rw [if_neg (by simpa using h2), if_neg h2]
theorem spl_idx (c : UInt8) : ∀ s : Str, (Lib.index s [c] = -1 → spl c s = [s] ∧ cut1 c s = (s, [], false)) ∧ ∀ i : Nat, Lib.index s [c] = i → spl c s = s.take i :: spl c (s.drop (i + 1)) ∧ cut1 c s = (s.take i, s.drop (i + 1), true) ∧ i < s.length
  | [] => ⟨fun _ => ⟨rfl, rfl⟩, fun i h => by
      have : Lib.index ([] : Str) [c] = -1 := rfl
      omega⟩
  | b :: l => by
    obtain ⟨h1, h2⟩ := spl_idx c l
    rw [idx_cons]
    by_cases h : b = c
    · rw [if_pos h]
      refine ⟨fun k => by omega, fun i k => ?_⟩
      have : i = 0 := by omega
      subst this
      refine ⟨?_, ?_, by simp⟩
      · rw [spl, if_pos h]; rfl
      · rw [cut1, if_pos h]; rfl
    · rw [if_neg h]
      by_cases h3 : Lib.index l [c] = -1
      · rw [if_pos h3]
        obtain ⟨a, b'⟩ := h1 h3
        refine ⟨fun _ => ⟨?_, ?_⟩, fun i k => by omega⟩
        · rw [spl, if_neg h, a]
        · rw [cut1, if_neg h, b']
      · rw [if_neg h3]
        have hg := Lib.index_ge l [c]
        refine ⟨fun k => by omega, fun i k => ?_⟩
        obtain ⟨j, rfl⟩ : ∃ j, i = j + 1 := ⟨i - 1, by omega⟩
        obtain ⟨a, b', c'⟩ := h2 j (by omega)
        refine ⟨?_, ?_, by simp; omega⟩
        · rw [spl, if_neg h, a]; rfl
        · rw [cut1, if_neg h, b']; rfl
theorem lcut_eq (c : UInt8) (s : Str) : Lib.cut s [c] = cut1 c s := by
  obtain ⟨h1, h2⟩ := spl_idx c s
  have hg := Lib.index_ge s [c]
  unfold Lib.cut
  by_cases h : 0 ≤ Lib.index s [c]
  · rw [if_pos h]
    obtain ⟨i, hi⟩ : ∃ i : Nat, Lib.index s [c] = i := ⟨(Lib.index s [c]).toNat, by omega⟩
    rw [(h2 i hi).2.1, hi, Int.toNat_natCast]; rfl
  · rw [if_neg h, (h1 (by omega)).2]
theorem lsplit_eq (c : UInt8) : ∀ (n : Nat) (s : Str), s.length ≤ n → Lib.splitK [c] 0 (Lib.count s [c]) s = spl c s
  | n, s, hn => by
    obtain ⟨h1, h2⟩ := spl_idx c s
    have hg := Lib.index_ge s [c]
    by_cases h : Lib.index s [c] = -1
    · rw [Lib.count_miss h, (h1 h).1]; rfl
    · obtain ⟨i, hi⟩ : ∃ i : Nat, Lib.index s [c] = i := ⟨(Lib.index s [c]).toNat, by omega⟩
      obtain ⟨a, b, hlt⟩ := h2 i hi
      cases n with
      | zero => omega
      | succ n =>
        have hc : Lib.count s [c] = 1 + Lib.count (s.drop (i + 1)) [c] := Lib.count_hit (by simp) hi
        rw [hc, Nat.add_comm 1, Lib.splitK, if_neg (by simpa using h), hi, Int.toNat_natCast, a]
        have := lsplit_eq c n (s.drop (i + 1)) (by rw [List.length_drop]; omega)
        rw [show i + [c].length = i + 1 from rfl, this, Nat.add_zero]
theorem spl_len (c : UInt8) : ∀ s : Str, (spl c s).length ≤ s.length + 1
  | [] => by simp [spl]
  | b :: l => by
    have := spl_len c l
    have hne := spl_ne c l
    rw [spl]
    split
    · simp only [List.length_cons]; omega
    · split
      · rename_i h t e; rw [e] at this; simp only [List.length_cons] at this ⊢; omega
      · rename_i e; exact absurd e hne
theorem spl_each (c : UInt8) : ∀ (s : Str), ∀ x ∈ spl c s, x.length ≤ s.length
  | [], x, h => by simp [spl] at h; subst h; simp
  | b :: l, x, h => by
    have ih := spl_each c l
    rw [spl] at h
    split at h
    · rcases List.mem_cons.1 h with rfl | h
      · simp
      · have := ih x h; simp only [List.length_cons]; omega
    · split at h
      · rename_i a t e
        rw [e] at ih
        rcases List.mem_cons.1 h with rfl | h
        · have := ih a (List.mem_cons_self ..); simp only [List.length_cons]; omega
        · have := ih x (List.mem_cons_of_mem _ h); simp only [List.length_cons]; omega
      · rename_i e; exact absurd e (spl_ne c l)
theorem cut1_len (c : UInt8) : ∀ s : Str, (cut1 c s).1.length ≤ s.length ∧ (cut1 c s).2.1.length ≤ s.length
  | [] => by simp [cut1]
  | b :: l => by
    have ih := cut1_len c l
    rw [cut1]
    split
    · simp
    · simp only [List.length_cons]; omega
end Go.Proofs.YtgdpogdgpfjnoaaGreatDoor

namespace Go.Proofs.YtgdpogdgpfjnoaaGreatDoor
open Go Go.RowKit Go.Sort Sx
open Go.Lib hiding intOf
abbrev strs (l : List Str) : D := .list 1 (l.map fun s => [str s])
abbrev retS (x : Str × Int) : DV := .tup [.one (str x.1), .one (i64 x.2)]
theorem toL (a : Str) : (⟨a.toArray⟩ : ByteArray).data.toList = a := rfl
theorem rep_str {w : World} {M : Nat → Prop} {s : Str} {v : Value} (h : Rep w M (str s) v) : v = bstr s := by cases h; rfl
theorem dr_below (w : World) (n : Nat) : Below w.heap.size w (w.drewN n) := by
  have h := Below.refl w.heap.size w
  exact ⟨h.os, h.tape, h.output, h.size, h.block⟩
theorem cut_fn {s : Str} {c : UInt8} (hs : s.length < 4294967281) : FnOK Tryz.prog 146 [.one (str s), .one (str [c])] (.tup [.one (str (cut1 c s).1), .one (str (cut1 c s).2.1), .one (bol (cut1 c s).2.2)]) :=
  fn_of_callsG (fun _ _ => Tryz.call146 _ _) rfl rfl (fun _ => ⟨.v trivial, .v trivial, .v trivial, trivial⟩) (fun h w hg => by
    obtain ⟨m, hm⟩ := hg.ml
    have H := Tryz.strings_Cut ⟨s.toArray⟩ ⟨[c].toArray⟩ m w hs hm
    simp only [lcut_eq] at H
    exact H.mono fun e w' ⟨he, n, hw⟩ => ⟨he, hw ▸ dr_below w n⟩)
theorem rep_new {w : World} {M : Nat → Prop} (hM : ∀ b, M b → b < w.heap.size) {l : List Str} {bs : List ByteArray} {T : TypeId} (hb : bs.map (·.data.toList) = l) (hm : l.length ≤ 9223372036854775807) : Rep (w.alloc (.cells (bs.map Value.string).toArray T)) M (strs l) (.slice (some ⟨w.heap.size, 0, none⟩) l.length l.length) := by
  have hl : bs.length = l.length := by rw [← hb, List.length_map]
  have e : l.length = (l.map fun s => [str s]).length := by rw [List.length_map]
  have e1 : ∀ i (hi : i < l.length), (bs[i]'(by omega)).data.toList = l[i] := fun i hi => by subst hb; rw [List.getElem_map]
  have key : Rep (w.alloc (.cells (bs.map Value.string).toArray T)) M (.list 1 (l.map fun s => [str s])) (.slice (some ⟨w.heap.size, 0, none⟩) (l.map fun s => [str s]).length l.length) := by
    refine .list (fun i _ => bstr (l.getD i [])) (by rw [← e]; exact Nat.le_refl _) hm (fun h => absurd (hM _ h) (by omega)) (by simp) (fun x hx => ?_) (fun i j hi hj => ?_) (fun i j hi hj => ?_)
    · obtain ⟨s, _, rfl⟩ := List.mem_map.1 hx; rfl
    · have hi' : i < l.length := by rw [e]; exact hi
      have : j = 0 := by omega
      subst this
      have := e1 i hi'
      have hx : (⟨(l.getD i []).toArray⟩ : ByteArray) = bs[i]'(by omega) := by
        rw [List.getD_eq_getElem?_getD, List.getElem?_eq_getElem hi', Option.getD_some, ← this]
      simp only [Nat.zero_add, Nat.mul_one, Nat.add_zero]
      rw [World.cell?_alloc_new]
      simp [List.getElem?_eq_getElem (show i < bs.length by omega)]
      rw [← hx, List.getD_eq_getElem?_getD]
    · have hi' : i < l.length := by rw [e]; exact hi
      have ee : (l.map fun s => [str s])[i] = [str l[i]] := by rw [List.getElem_map]
      have hj0 : j = 0 := by rw [ee] at hj; simp at hj; omega
      subst hj0
      have : (l.map fun s => [str s])[i][0] = str l[i] := by simp only [ee]; rfl
      rw [this]
      have hx : l.getD i [] = l[i] := by rw [List.getD_eq_getElem?_getD, List.getElem?_eq_getElem hi', Option.getD_some]
      rw [hx]
      exact .v _ rfl trivial
  rw [← e] at key
  exact key
theorem split_fn {s : Str} {c : UInt8} (hs : s.length < 4294967281) : FnOK Tryz.prog 48 [.one (str s), .one (str [c])] (.c (.one (strs (spl c s)))) := by
  refine fun w M vs hM hvs => .inl ⟨48, Tryz.call48 _ _, ?_⟩
  obtain ⟨h1, h2⟩ := (dcs_rel (l := [.one (str s), .one (str [c])]) rfl).1 hvs
  subst h1
  obtain ⟨m, hm⟩ := hM.gd.ml
  have hb : (splitB ⟨[c].toArray⟩ 0 (countB ⟨s.toArray⟩ ⟨[c].toArray⟩) ⟨s.toArray⟩).map (·.data.toList) = spl c s := by
    rw [splitB_data]
    exact lsplit_eq c _ s (Nat.le_refl _)
  have hlen := spl_len c s
  have hcnt : countB ⟨s.toArray⟩ ⟨[c].toArray⟩ + 1 = (spl c s).length := by
    have : ∀ (n : Nat) (s : Str), s.length ≤ n → Lib.count s [c] + 1 = (spl c s).length := by
      intro n
      induction n with
      | zero =>
        intro s hn
        have : s = [] := List.eq_nil_of_length_eq_zero (by omega)
        subst this
        rw [Lib.count_miss (show Lib.index ([] : Str) [c] = -1 from rfl)]; rfl
      | succ n ih =>
        intro s hn
        obtain ⟨h1, h2⟩ := spl_idx c s
        have hg := Lib.index_ge s [c]
        by_cases h : Lib.index s [c] = -1
        · rw [Lib.count_miss h, (h1 h).1]; rfl
        · obtain ⟨i, hi⟩ : ∃ i : Nat, Lib.index s [c] = i := ⟨(Lib.index s [c]).toNat, by omega⟩
          obtain ⟨a, b, hlt⟩ := h2 i hi
          have hc : Lib.count s [c] = 1 + Lib.count (s.drop (i + 1)) [c] := Lib.count_hit (by simp) hi
          have := ih (s.drop (i + 1)) (by rw [List.length_drop]; omega)
          rw [hc, a, List.length_cons]; omega
    exact this _ s (Nat.le_refl _)
  refine (Tryz.strings_Split ⟨s.toArray⟩ ⟨[c].toArray⟩ m w hs hm (Nat.le_refl 1)).mono fun e w' ⟨he, hw⟩ => ⟨_, he, ?_, ?_⟩
  · subst hw
    rw [hcnt]
    exact rep_new hM.lt hb (by omega)
  · subst hw
    exact (Below.refl _ _).alloc (Nat.le_refl _) _
theorem rep_strs {w : World} {M : Nat → Prop} {es : List Str} {v : Value} (h0 : es ≠ []) (h : Rep w M (strs es) v) : ∃ b off cap, v = .slice (some ⟨b, off, none⟩) es.length cap ∧ es.length ≤ cap ∧ b < w.heap.size ∧ (∀ i (hi : i < es.length), w.cell? ⟨b, off + i, none⟩ = some (bstr es[i])) := by
  obtain ⟨l, hl⟩ : ∃ l : List (List Sx.D), l = es.map fun i => [str i] := ⟨_, rfl⟩
  have hll : l.length = es.length := by rw [hl, List.length_map]
  have h' : Rep w M (.list 1 l) v := by rw [hl]; exact h
  clear h
  cases h' with
  | nil k x c hm hx =>
    exact absurd (List.eq_nil_of_length_eq_zero (by rw [← hll]; rfl)) h0
  | @list b off cap k l vs hc hm hMb hb hk hv hr =>
    refine ⟨b, off, cap, by rw [hll], by omega, hb, fun i hi => ?_⟩
    have hi' : i < l.length := by omega
    have h1 := hv i 0 hi' (by decide)
    have e1 : l[i] = [str es[i]] := by subst hl; rw [List.getElem_map]
    have h2 := hr i 0 hi' (by rw [e1]; exact Nat.zero_lt_one)
    have e2 : l[i][0]'(by rw [e1]; exact Nat.zero_lt_one) = str es[i] := by simp only [e1]; rfl
    rw [e2] at h2
    rw [rep_str h2] at h1
    simpa using h1
def joinC (c : UInt8) : List Str → Str
  | [] => []
  | [a] => a
  | a :: l => a ++ c :: joinC c l
theorem ljoin_eq (c : UInt8) : ∀ l : List Str, Lib.join l [c] = joinC c l
  | [] => rfl
  | [a] => Lib.join_one _ _
  | a :: b :: l => by
    have ih := ljoin_eq c (b :: l)
    rw [Lib.join_cons] at ih ⊢
    show _ = a ++ c :: joinC c (b :: l)
    rw [← ih]
    simp [Lib.joinTail]
theorem join_fn {l : List Str} {c : UInt8} (hl : l.length ≤ 1000000) (hj : (joinC c l).length ≤ 1000000) : FnOK Tryz.prog 55 [.one (strs l), .one (str [c])] (.c (.one (str (joinC c l)))) := by
  refine fun w M vs hM hvs => .inl ⟨55, Tryz.call55 _ _, ?_⟩
  match vs, hvs with
  | [u, v], hvs =>
    obtain ⟨h1, h2, _⟩ := hvs
    have h2 := rep_str h2
    subst h2
    by_cases h0 : l = []
    · subst h0
      obtain ⟨a, c', rfl⟩ : ∃ a c', u = .slice a 0 c' := by
        have h1 : Rep w M (.list 1 []) u := h1
        cases h1 with
        | nil k x c hm hx => exact ⟨_, _, rfl⟩
        | list vs => exact ⟨_, _, rfl⟩
      exact (Tryz.strings_Join_none a c' ⟨[c].toArray⟩ w).mono fun e w' ⟨he, hw⟩ => ⟨_, he, .v _ rfl trivial, hw ▸ Below.refl _ _⟩
    · obtain ⟨b, off, cap, rfl, hc, hb, hv⟩ := rep_strs h0 h1
      have hmap : (l.map fun s => (⟨s.toArray⟩ : ByteArray)).map (·.data.toList) = l := by rw [List.map_map]; exact List.map_id l
      have H := Tryz.strings_Join b off cap (l.map fun s => ⟨s.toArray⟩) ⟨[c].toArray⟩ w (fun j x hx => by
        rw [List.getElem?_map] at hx
        cases e : l[j]? with
        | none => rw [e] at hx; cases hx
        | some y =>
          rw [e] at hx
          injection hx with hx
          subst hx
          obtain ⟨hj, rfl⟩ := List.getElem?_eq_some_iff.1 e
          exact hv j hj) hb (by rw [List.length_map]; omega) (by rw [List.length_map]; exact hc) (by rw [hmap, toL, ljoin_eq]; omega)
      rw [List.length_map, hmap, toL, ljoin_eq] at H
      exact H.mono fun e w' ⟨he, hw⟩ => ⟨_, he, .v _ rfl trivial, hw⟩
  | [], hvs => exact hvs.elim
  | [_], hvs => exact hvs.2.elim
  | _ :: _ :: _ :: _, hvs => exact hvs.2.2.elim
end Go.Proofs.YtgdpogdgpfjnoaaGreatDoor

namespace Go.Proofs.YtgdpogdgpfjnoaaGreatDoor
open Go Go.RowKit
def SeqEnds {α : Type} (n : Nat) (P : Program) (g : Nat) (lb : Array Value) (encs : α → Array Value) (bs : Nat → Prop) (xs : List α) (w : World) : Prop :=
  ∀ (lp : Nat) (J : List α → World → Prop) (Jx : World → Prop) (W : World), w.heap.size ≤ W.heap.size → (∀ b, bs b → W.heap[b]? = w.heap[b]?) →
    (∀ pre A B row, J pre A → A.grownBy B row → (∀ r, row = some r → bs r) → J pre B) →
    (∀ pre x post W1, pre ++ x :: post = xs → J pre W1 → YieldAt Fence.wide (n - 1) P lp (encs x) W1 fun e W' => (e = .returned (.bool true) ∧ J (pre ++ [x]) W' ∧ W1.heap.size ≤ W'.heap.size ∧ ∀ b, bs b → W'.heap[b]? = W1.heap[b]?) ∨ (e = .returned (.bool false) ∧ Jx W')) → J [] W →
    CallsIn Fence.wide n P g (#[.func (.yield lp) #[] #[]] ++ lb) W fun e W' => (∃ v, e = .returned v) ∧ (J xs W' ∨ Jx W')
def endsPost {α : Type} (bs : Nat → Prop) (I : List α → World → Prop) (Ix : World → Prop) (pre : List α) (W : World) : Exit → Act → World → Prop
  | .normal, _, W' => KeepsOthers W W' ∧ (∀ b, bs b → W'.heap[b]? = W.heap[b]?) ∧ I pre W'
  | .ret, _, W' => KeepsOthers W W' ∧ Ix W'
  | _, _, _ => False
theorem wpIn_rangeEnds {P : Program} {α : Type} {g : Operand} {ps : Array Tmp} {assign body : Code} {Q : Exit → Act → World → Prop} {a : Act} {w : World} {n : Nat} (h1 : 1 ≤ n) {gf : Nat} {lb : Array Value} (hg : a.eval g = .func (.func gf) #[] lb)
    (eg : ∀ args w, (callFunc gf args).run P w = .ok (.enter gf args) w) {encs : α → Array Value} {bs : Nat → Prop} {xs : List α} (hseq : SeqEnds (n - 1) P gf lb encs bs xs w) (hbs : ∀ b, bs b → b < w.heap.size) (hps : ∀ x, (encs x).size = ps.size)
    (I : List α → World → Prop) (Ix : World → Prop)
    (hI : ∀ pre A B row, I pre A → A.grownBy B row → (∀ r, row = some r → bs r ∨ (w.heap.size ≤ r ∧ ∃ o : Obj, A.heap[r]? = some o ∧ o.isCells = false)) → I pre B)
    (hIx : ∀ A B row, Ix A → A.grownBy B row → (∀ r, row = some r → w.heap.size ≤ r ∧ ∃ o : Obj, A.heap[r]? = some o ∧ o.isCells = false) → Ix B)
    (h0 : I [] w) (a₁ : α → Act)
    (hassign : ∀ (lp : Nat) (x : α) (W : World) (K : Act → World → Prop), K (a₁ x) W → assign.wpIn (Fence.wide.inRound lp) (n - 1 - 1) P (Exit.then K (fun _ _ _ => False)) { tmps := (ps.zip (encs x)).foldl (fun t (p, v) => t.setIfInBounds p v) a.tmps, defers := [] } W)
    (hbody : ∀ (lp : Nat) (pre : List α) (x : α) (post : List α) (W : World), pre ++ x :: post = xs → I pre W → body.wpIn (Fence.wide.inRound lp) (n - 1 - 1) P (endsPost bs I Ix (pre ++ [x]) W) (a₁ x) W)
    (hdone : ∀ (D : Nat) (W : World), w.heap.size ≤ D → I xs W → W.heap[D]? = some (.deferred (some [])) → Q .normal { a with defers := { target := .collected D, args := #[] } :: a.defers } W)
    (hstop : ∀ (D : Nat) (W : World), w.heap.size ≤ D → Ix W → W.heap[D]? = some (.deferred (some [])) → Code.ret.wpIn Fence.wide n P Q { a with defers := { target := .collected D, args := #[] } :: a.defers } W) :
    (Code.rangeFunc g ps assign body).wpIn Fence.wide n P Q a w := by
  refine wpIn_rangeFunc fun fn hfn => ?_
  obtain ⟨L, hL⟩ : ∃ L : LoopState → Option Code → Obj, L = fun st pe => .loop { state := st, pending := pe, fn, tmps := a.tmps, params := ps, assign, body, defers := w.heap.size } := ⟨_, rfl⟩
  have hLc : ∀ st pe, (L st pe).isCells = false := fun st pe => by rw [hL]; rfl
  obtain ⟨W1, hW1⟩ : ∃ W1, W1 = (w.alloc (.deferred (some []))).alloc (L .ready none) := ⟨_, rfl⟩
  have s1 : W1.heap.size = w.heap.size + 2 := by rw [hW1]; simp
  have g1 : W1.heap[w.heap.size + 1]? = some (L .ready none) := by rw [hW1]; have := World.alloc_heap_new (w.alloc (.deferred (some []))) (L .ready none); rwa [World.size_alloc] at this
  have g2 : W1.heap[w.heap.size]? = some (.deferred (some [])) := by rw [hW1]; exact (Below.heap_alloc _ _ _ (by simp)).trans (World.alloc_heap_new w _)
  have nn : ∀ {A B : World} {row : Option Nat}, row = none → (∀ r, row = some r → bs r ∨ (w.heap.size ≤ r ∧ ∃ o : Obj, A.heap[r]? = some o ∧ o.isCells = false)) := fun h r e => by rw [h] at e; cases e
  have i1 : I [] W1 := by
    rw [hW1]
    exact hI _ _ _ none (hI _ _ _ none h0 (World.grownBy_alloc w _ none) (nn (B := w) rfl)) (World.grownBy_alloc _ _ none) (nn (B := w) rfl)
  have lowb : ∀ b, b < w.heap.size → W1.heap[b]? = w.heap[b]? := fun b hb => by
    rw [hW1]; exact (Below.heap_alloc _ _ b (by simp; omega)).trans (Below.heap_alloc _ _ b hb)
  refine ⟨w.heap.size + 1, [{ target := .collected w.heap.size, args := #[] }], W1, { target := .fn (.func gf) lb, args := #[.func (.yield (w.heap.size + 1)) #[] #[]] }, W1, gf, #[.func (.yield (w.heap.size + 1)) #[] #[]] ++ lb, W1, ?_, ?_, fun f' _ => trivial, ?_, fun _ => h1, ?_⟩
  · have := run_enterLoop_outer (P := P) (w := w) fn a.tmps ps assign body
    rw [hW1, hL]; exact this
  · simp only [resolve, hg]; simp [go_sem]
  · simp [invoke, go_sem, eg]
  have put : ∀ {W : World} {st : LoopState} {pe : Option Code} {st' : LoopState} {pe' : Option Code}, W.heap[w.heap.size + 1]? = some (L st pe) → ∀ r, some (w.heap.size + 1) = some r → w.heap.size ≤ r ∧ ∃ o : Obj, W.heap[r]? = some o ∧ o.isCells = false := fun hl r e => by
    injection e with e; subst e; exact ⟨Nat.le_succ _, _, hl, hLc _ _⟩
  refine (hseq (w.heap.size + 1) (fun pre W => I pre W ∧ W.heap[w.heap.size + 1]? = some (L .ready none) ∧ W.heap[w.heap.size]? = some (.deferred (some []))) (fun W => Ix W ∧ W.heap[w.heap.size + 1]? = some (L .done (some .ret)) ∧ W.heap[w.heap.size]? = some (.deferred (some []))) W1 (by omega)
    (fun b hb => lowb b (hbs b hb))
    (fun s A B row hs hg' hr => ⟨hI s A B row hs.1 hg' fun r e => .inl (hr r e),
      (hg'.block _ (Array.getElem?_eq_some_iff.1 hs.2.1).1 fun e => by have := hbs _ (hr _ e.symm); omega).trans hs.2.1,
      (hg'.block _ (Array.getElem?_eq_some_iff.1 hs.2.2).1 fun e => by have := hbs _ (hr _ e.symm); omega).trans hs.2.2⟩)
    ?_ ⟨i1, g1, g2⟩).mono ?_
  · rintro pre x post W hpost ⟨hi, hl, hk⟩
    have hlw : w.heap.size + 1 < W.heap.size := (Array.getElem?_eq_some_iff.1 hl).1
    have hl' : W.heap[w.heap.size + 1]? = some (.loop { state := .ready, pending := none, fn, tmps := a.tmps, params := ps, assign, body, defers := w.heap.size }) := by rw [hl, hL]
    have hy := run_yield (P := P) (args := encs x) hl' (hps x)
    refine ⟨fn, _, assign, body, hy, roundIn_of_wpIn hfn (hassign _ x W _ ?_)⟩
    have hb := run_beginRound (P := P) hl' rfl
    obtain ⟨W3, hW3⟩ : ∃ W3, W3 = W.putObj (w.heap.size + 1) (L .busy none) := ⟨_, rfl⟩
    have hl3 : W3.heap[w.heap.size + 1]? = some (L .busy none) := by rw [hW3]; exact World.putObj_heap_same hlw
    have hk3 : W3.heap[w.heap.size]? = some (.deferred (some [])) := by rw [hW3]; exact (World.putObj_heap_other (by omega)).trans hk
    have hi3 : I pre W3 := by rw [hW3]; exact hI _ _ _ _ hi (grownBy_putObj' W _ _) fun r e => .inr (put (st' := .ready) (pe' := none) hl r e)
    have low3 : ∀ b, bs b → W3.heap[b]? = W.heap[b]? := fun b hb => by rw [hW3]; exact World.putObj_heap_other (by have := hbs b hb; omega)
    refine ⟨W3, by rw [hW3, hL]; exact hb, wpIn_mono (hbody _ pre x post W3 hpost hi3) ?_⟩
    have s3 : W3.heap.size = W.heap.size := by rw [hW3]; simp
    rintro e a₂ W4 hp
    cases e with
    | normal =>
      obtain ⟨q1, q2, q3⟩ := hp
      have hl4 := q1.same _ _ hl3 (hLc _ _)
      have hk4 := q1.same _ _ hk3 rfl
      have hl4' : W4.heap[w.heap.size + 1]? = some (.loop { state := .busy, pending := none, fn, tmps := a.tmps, params := ps, assign, body, defers := w.heap.size }) := by rw [hl4, hL]
      have he := run_endRound (P := P) none hl4'
      refine ⟨_, _, he, .inl ⟨rfl, ⟨hI _ _ _ _ q3 (grownBy_putObj' W4 _ _) fun r e => .inr (put (st' := .ready) (pe' := none) hl4 r e), ?_, (World.putObj_heap_other (by omega)).trans hk4⟩, ?_, ?_⟩⟩
      · rw [World.putObj_heap_same (Array.getElem?_eq_some_iff.1 hl4).1, hL]; rfl
      · have := q1.size
        simp; omega
      · exact fun b hb => (World.putObj_heap_other (by have := hbs b hb; omega)).trans ((q2 b hb).trans (low3 b hb))
    | ret =>
      obtain ⟨q1, q3⟩ := hp
      have hl4 := q1.same _ _ hl3 (hLc _ _)
      have hk4 := q1.same _ _ hk3 rfl
      have hl4' : W4.heap[w.heap.size + 1]? = some (.loop { state := .busy, pending := none, fn, tmps := a.tmps, params := ps, assign, body, defers := w.heap.size }) := by rw [hl4, hL]
      have he := run_endRound (P := P) (some .ret) hl4'
      refine ⟨_, _, he, .inr ⟨rfl, hIx _ _ _ q3 (grownBy_putObj' W4 _ _) (put (st' := .ready) (pe' := none) hl4), ?_, (World.putObj_heap_other (by omega)).trans hk4⟩⟩
      rw [World.putObj_heap_same (Array.getElem?_eq_some_iff.1 hl4).1, hL]; rfl
    | exit id => exact hp.elim
    | goto t => exact hp.elim
    | panic ch => exact hp.elim
    | outgrown => exact hp.elim
  · rintro e W2 ⟨⟨v, rfl⟩, ⟨hi, hl, hk⟩ | ⟨hi, hl, hk⟩⟩
    · have hl' : W2.heap[w.heap.size + 1]? = some (.loop { state := .ready, pending := none, fn, tmps := a.tmps, params := ps, assign, body, defers := w.heap.size }) := by rw [hl, hL]
      exact ⟨none, _, run_endLoop (P := P) hl' (by simp), hdone _ _ (Nat.le_refl _) (hI _ _ _ _ hi (grownBy_putObj' W2 _ _) fun r e => .inr (put (st' := .ready) (pe' := none) hl r e)) ((World.putObj_heap_other (by omega)).trans hk)⟩
    · have hl' : W2.heap[w.heap.size + 1]? = some (.loop { state := .done, pending := some .ret, fn, tmps := a.tmps, params := ps, assign, body, defers := w.heap.size }) := by rw [hl, hL]
      exact ⟨some .ret, _, run_endLoop (P := P) hl' (by simp), hstop _ _ (Nat.le_refl _) (hIx _ _ _ hi (grownBy_putObj' W2 _ _) (put (st' := .ready) (pe' := none) hl)) ((World.putObj_heap_other (by omega)).trans hk)⟩
end Go.Proofs.YtgdpogdgpfjnoaaGreatDoor

namespace Go.Proofs.YtgdpogdgpfjnoaaGreatDoor
open Go Go.RowKit Go.Sort Sx
open Go.Lib hiding intOf
theorem fn_call {f : Nat} {args : List DC} {r : DV} {v : Value} (hcall : ∀ (vs : Array Value) (w : World), (callFunc f vs).run Tryz.prog w = .ok (.enter f vs) w) (hr : dv? r = some v) (h : FnOK Tryz.prog f args r) {w : World} (hg : Gd w) {vs : List Value} (hvs : DCsR w (fun _ => False) args vs) :
    Calls Tryz.prog f vs.toArray w fun e w' => e = .returned v ∧ Below w.heap.size w w' := by
  rcases h w (fun _ => False) vs ⟨fun _ h => h.elim, hg, fun _ h => h.elim⟩ hvs with ⟨g, hg, hc⟩ | ⟨u, hg, _⟩
  · have : g = f := by
      rw [hcall] at hg
      injection hg with h1
      injection h1 with h1
      exact h1.symm
    subst this
    refine hc.mono ?_
    rintro e w' ⟨u, rfl, hu, hb⟩
    rw [dv_rel hr] at hu
    rw [hu.1]
    exact ⟨rfl, hb⟩
  · rw [hcall] at hg
    cases hg
theorem gd_below {w w' : World} (hb : Below w.heap.size w w') (h : Gd w) : Gd w' := gd_keep hb.size (fun b hb' => hb.block b (Nat.lt_of_lt_of_le hb' (gd_size h))) h
theorem grownBy_drew (W : World) : W.grownBy W.drew none := ⟨rfl, rfl, rfl, Nat.le_refl _, fun _ _ _ => rfl⟩
theorem setCell_other {W : World} {a : Addr} {v : Value} {k : Nat} (h : k ≠ a.block) : (W.setCell a v).heap[k]? = W.heap[k]? := Below.heap_setCell W a v k h
theorem setCell_o {W : World} {v : Value} {k b j : Nat} {o : Obj} (h : k ≠ b) (ho : W.heap[k]? = some o) : (W.setCell ⟨b, j, none⟩ v).heap[k]? = some o := (setCell_other h).trans ho
def in64 (n : Int) : Prop := -9223372036854775808 ≤ n ∧ n ≤ 9223372036854775807
theorem below_row {n0 : Nat} {w W W' : World} {row : Option Nat} (h : Below n0 w W) (hn : n0 ≤ W.heap.size) (hg : W.grownBy W' row) (hr : ∀ r, row = some r → n0 ≤ r) : Below n0 w W' := h.grown hg hn hr
theorem rep_tail {w : World} {M : Nat → Prop} {a : Str} {l : List Str} {b o c : Nat} (h : Rep w M (strs (a :: l)) (.slice (some ⟨b, o, none⟩) (l.length + 1) c)) (hc : l.length + 1 ≤ c) :
    (c = 1 → Rep w M (strs l) (.slice (some ⟨b, o, none⟩) l.length 0)) ∧ (c ≠ 1 → Rep w M (strs l) (.slice (some ⟨b, o + 1, none⟩) l.length (c - 1))) := by
  have hl : ((a :: l).map fun s => [str s]).length = l.length + 1 := by simp
  rw [← hl] at h
  have := rep_sub h (p := 1) (q := ((a :: l).map fun s => [str s]).length) (m := c) (by rw [hl]; omega) (Nat.le_refl _) (by rw [hl]; exact hc) (Nat.le_refl _)
  rw [List.take_length, hl] at this
  refine ⟨fun e => ?_, fun e => ?_⟩
  · subst e
    rw [if_pos rfl] at this
    exact this
  · rw [if_neg e] at this
    exact this
theorem ko_below {W W' : World} (h : Below W.heap.size W W') : KeepsOthers W W' := ⟨h.size, fun k o hk _ => (h.block k (Array.getElem?_eq_some_iff.1 hk).1).trans hk⟩
theorem gb_below {W W' : World} (h : Below W.heap.size W W') : W.grownBy W' none := ⟨h.os, h.tape, h.output, h.size, fun k hk _ => h.block k hk⟩
theorem gb_set (W : World) (a : Addr) (v : Value) : W.grownBy (W.setCell a v) (some a.block) := ⟨rfl, rfl, rfl, (KeepsWalks.setCell W _ v).size, fun k _ hk => Below.heap_setCell _ _ _ k (fun e => hk (by rw [e]))⟩
theorem owns_set {W : World} {base : Nat} {e : TypeId} {size k : Nat} {v : Value} {xs : List Value} (h : W.ownsRow base e size v k xs) (a : Addr) (u : Value) (ha : a.block < base) : (W.setCell a u).ownsRow base e size v k xs := by
  refine h.kept (gb_set W a u) ?_
  rcases h.2 with ⟨rfl, _⟩ | ⟨g, cap, cur, rfl, hb, hgb, _⟩
  · exact .inl rfl
  · refine .inr fun e' => ?_
    have : a.block = g := by simpa [Value.ownBlock] using e'.symm
    omega
theorem owns_below {W W' : World} {base : Nat} {e : TypeId} {size k : Nat} {v : Value} {xs : List Value} (h : W.ownsRow base e size v k xs) (hb : Below W.heap.size W W') : W'.ownsRow base e size v k xs := h.kept (gb_below hb) (by cases hv : v.ownBlock <;> simp)
theorem zip1 (a : Tmp) (x : Value) (t : Array Value) : ((#[a] : Array Tmp).zip #[x]).foldl (fun t (p, v) => t.setIfInBounds p v) t = t.setIfInBounds a x := by
  have e : (#[a] : Array Tmp).zip #[x] = #[(a, x)] := by apply Array.ext'; simp
  rw [e]; simp
theorem str_eql (t : Nat) (a b : Str) (w : World) : (binOp .eql t (bstr a) (bstr b)).run Tryz.prog w = .ok (.bool (decide (a = b))) w := by
  rw [binOp_string_eql, str_toList, str_toList]
  simp [go_sem]
  by_cases h : a = b <;> simp [h]
theorem str_neq (t : Nat) (a b : Str) (w : World) : (binOp .neq t (bstr a) (bstr b)).run Tryz.prog w = .ok (.bool (decide (¬ a = b))) w := by
  rw [binOp_string_neq, str_toList, str_toList]
  simp [go_sem]
  by_cases h : a = b <;> simp [h]
theorem own_ne {W : World} {base : Nat} {e : TypeId} {size k b : Nat} {v : Value} {xs : List Value} (h : W.ownsRow base e size v k xs) (hb : b < base) : some b ≠ v.ownBlock := by
  rcases h.2 with ⟨rfl, _⟩ | ⟨g, cap, cur, rfl, hg, hgb, _⟩
  · simp [Value.ownBlock]
  · intro e'
    have : b = g := by simpa [Value.ownBlock] using e'
    omega
theorem own_cells {W : World} {base : Nat} {e : TypeId} {size k : Nat} {v : Value} {xs : List Value} (h : W.ownsRow base e size v k xs) {j : Nat} {o : Obj} (ej : v.ownBlock = some j) (hj : W.heap[j]? = some o) : o.isCells = true ∧ base ≤ j := by
  rcases h.2 with ⟨rfl, _⟩ | ⟨g, cap, cur, rfl, hg, hgb, _⟩
  · simp [Value.ownBlock] at ej
  · obtain rfl : g = j := by simpa [Value.ownBlock] using ej
    rw [hgb] at hj; cases hj; exact ⟨rfl, hg⟩
theorem own_base {W : World} {base : Nat} {e : TypeId} {size k : Nat} {v : Value} {xs : List Value} (h : W.ownsRow base e size v k xs) {j : Nat} (ej : v.ownBlock = some j) : base ≤ j := by
  rcases h.2 with ⟨rfl, _⟩ | ⟨g, cap, cur, rfl, hg, hgb, _⟩
  · simp [Value.ownBlock] at ej
  · obtain rfl : g = j := by simpa [Value.ownBlock] using ej
    exact hg
end Go.Proofs.YtgdpogdgpfjnoaaGreatDoor

namespace Go.Proofs.YtgdpogdgpfjnoaaGreatDoor
open Go.RowKit Go.Sort Sx Go.Lib
structure Reads {α : Type} (wr : α → Str) (good : α → Prop) (bad : α) (f : Str → α × Int) : Prop where
  ok : ∀ s, (f s).2 = 0 → good (f s).1 ∧ wr (f s).1 = s
  no : ∀ s, (f s).2 ≠ 0 → f s = (bad, 12)
  of : ∀ a, good a → f (wr a) = (a, 0)
theorem Reads.eq {α : Type} {wr : α → Str} {good : α → Prop} {bad : α} {f g : Str → α × Int} (hf : Reads wr good bad f) (hg : Reads wr good bad g) (s : Str) : f s = g s := by
  have key : ∀ {f g : Str → α × Int}, Reads wr good bad f → Reads wr good bad g → (f s).2 = 0 → f s = g s := fun {f g} hf hg h => by
    obtain ⟨a, b⟩ := hf.ok s h
    have := hg.of _ a
    rw [b] at this
    rw [this, ← h]
  by_cases h : (f s).2 = 0
  · exact key hf hg h
  · by_cases h2 : (g s).2 = 0
    · exact (key hg hf h2).symm
    · rw [hf.no s h, hg.no s h2]
def joinS : List Str → Str
  | [] => []
  | [a] => a
  | a :: l => a ++ 32 :: joinS l
theorem itoa_no32 (n : Int) : (32 : UInt8) ∉ itoa n := itoa_no (by decide) (by decide)
theorem wrt_no32 (n d : Int) : (32 : UInt8) ∉ wrtV n d := by
  unfold wrtV
  split
  · exact itoa_no32 n
  · intro h
    rcases List.mem_append.1 h with h | h
    · exact itoa_no32 n h
    · rcases List.mem_cons.1 h with h | h
      · exact absurd h (by decide)
      · exact itoa_no32 d h
end Go.Proofs.YtgdpogdgpfjnoaaGreatDoor
