

/- What math/bits.Div64 computes, step by step (a walk), where the high part is less than the divisor. -/
import Derived.Test.YtffamgiknfphaaaBase
import Derived.Test.YtffamgiknfphaaaDivP
import Derived.Test.YtffamgiknfphaaaShelf
import Derived.Test.YtffamgiknfphaaaChecked
import Derived.Lib.ItoaNum
import Derived.Deep.DeepCutAuto
import Derived.Deep.CutBlock
import Derived.Laws.BitsAllLaws
namespace Go.Proofs.Ytffamgiknfphaaa
open Go.RowKit Go.Sort
set_option linter.unusedVariables false

theorem lz_norm (y : Nat) (h0 : 0 < y) (h1 : y < 18446744073709551616) : Lib.bitLen y ≤ 64 ∧ 1 ≤ Lib.bitLen y ∧ 9223372036854775808 ≤ y * 2 ^ (64 - Lib.bitLen y) ∧ y * 2 ^ (64 - Lib.bitLen y) < 18446744073709551616 := by
  have hl : Lib.bitLen y ≤ 64 := Lib.bitLen_le y 64 (by omega) (by omega)
  obtain ⟨a, b, c⟩ := Lib.bitLenAux_bounds 64 y (by omega) (by omega)
  change 1 ≤ Lib.bitLen y at a
  change 2 ^ (Lib.bitLen y - 1) ≤ y at b
  change y < 2 ^ Lib.bitLen y at c
  refine ⟨hl, a, ?_, ?_⟩
  · have h : 2 ^ (Lib.bitLen y - 1) * 2 ^ (64 - Lib.bitLen y) ≤ y * 2 ^ (64 - Lib.bitLen y) := Nat.mul_le_mul_right _ b
    rw [← Nat.pow_add, show Lib.bitLen y - 1 + (64 - Lib.bitLen y) = 63 by omega] at h
    exact h
  · have h : y * 2 ^ (64 - Lib.bitLen y) < 2 ^ Lib.bitLen y * 2 ^ (64 - Lib.bitLen y) := Nat.mul_lt_mul_of_pos_right c (Nat.two_pow_pos _)
    rw [← Nat.pow_add, show Lib.bitLen y + (64 - Lib.bitLen y) = 64 by omega] at h
    exact h

theorem u64_mask32 (a : Nat) (ha : a < 18446744073709551616) : bits .and .u64 (a : Int) 4294967295 = ((a % 4294967296 : Nat) : Int) := by
  have h := u64_and_nat a 4294967295 ha (by omega)
  have h2 : a &&& 4294967295 = a % 4294967296 := Nat.and_two_pow_sub_one_eq_mod a 32
  rw [h2] at h
  exact h

theorem div64_small (lo y : Nat) (w : World) (hy : 0 < y) (hlo : lo < 18446744073709551616) :
    Calls Try.prog 36 #[.int .u64 0, .int .u64 lo, .int .u64 y] w fun e w' => e = .returned (.tuple #[.int .u64 (lo / y : Nat), .int .u64 (lo % y : Nat)]) ∧ Below w.heap.size w w' := by
  have h0 : ((y : Int) == 0) = false := by simp; omega
  have hq : lo / y ≤ lo := Nat.div_le_self _ _
  have HW : Hid (IntKind.u64.wrap ((lo : Int) / (y : Int)) = ((lo / y : Nat) : Int)) := Lib.hid (by rw [IntKind.wrap_u64, ← Int.natCast_ediv]; exact Int.emod_eq_of_lt (Int.natCast_nonneg _) (by omega))
  clear hq
  go_enter Try.func36, Try.ntmps36
  go_wp2_with (first | ((with_reducible refine wp_region_quiet_below ?_ ?_ ?_); kernel_rfl; kernel_rfl; (repeat (go_big_quiet_step (fail))); refine wpQuiet_nil ?_; intro _ hw'; obtain ⟨⟨dq, osq⟩, hw''⟩ := hw'; subst hw''))
  go_ret2
  refine ⟨ret_of ?_, (by repeat (first | exact Below.refl _ _ | refine below_reg ?_ _ _ | refine below_alloc ?_ _ | exact below_drewN ?_ _ | assumption))⟩
  show Value.tuple #[.int .u64 (IntKind.u64.wrap ((lo : Int) / (y : Int))), .int .u64 ((lo : Int) % (y : Int))] = _
  rw [HW.out]
  rfl

theorem div64_great (hi lo y : Nat) (w : World) (h0 : 0 < hi) (hy : hi < y) (hY : y < 18446744073709551616) (hlo : lo < 18446744073709551616) :
    Calls Try.prog 36 #[.int .u64 hi, .int .u64 lo, .int .u64 y] w fun e w' => e = .returned (.tuple #[.int .u64 ((hi * 18446744073709551616 + lo) / y : Nat), .int .u64 ((hi * 18446744073709551616 + lo) % y : Nat)]) ∧ Below w.heap.size w w' := by
  have h0 : ((y : Int) == 0) = false := by simp; omega
  have h1 : ((hi : Int) == 0) = false := by simp; omega
  have hle : ¬ (y ≤ hi) := by omega
  obtain ⟨n1, n2, n3, n4⟩ := lz_norm y (by omega) hY
  obtain ⟨s, hs⟩ : ∃ s, s = 64 - Lib.bitLen y := ⟨_, rfl⟩
  rw [← hs] at n3 n4
  have hs64 : s < 64 := by omega
  have E : (64 : Int) - (Lib.bitLen (y : Int).toNat : Int) = (s : Int) := by rw [Int.toNat_natCast]; omega
  have HL := Try.bits_LeadingZeros64 y
  rw [E] at HL
  have HQ := Lib.hid HL
  clear HL E hs
  obtain ⟨Y, hYd⟩ : ∃ Y, Y = y * 2 ^ s := ⟨_, rfl⟩
  have R1 : IntKind.u64.wrap ((y : Int) * 2 ^ s) = (Y : Int) := by
    have e : ((y : Int) * 2 ^ s) = ((y * 2 ^ s : Nat) : Int) := by simp
    rw [e, IntKind.wrap_u64, ← hYd]; rw [← hYd] at n4; omega
  rw [← hYd] at n3 n4
  have HYd := Lib.hid hYd
  clear hYd
  obtain ⟨y1, hy1d⟩ : ∃ y1, y1 = Y / 4294967296 := ⟨_, rfl⟩
  obtain ⟨y0, hy0d⟩ : ∃ y0, y0 = Y % 4294967296 := ⟨_, rfl⟩
  obtain ⟨k1, k2, k3⟩ := kn_shift hi lo y s hs64 hy hlo
  rw [← HYd.out] at k3
  obtain ⟨u, hud⟩ : ∃ u, u = hi * 2 ^ s + lo / 2 ^ (64 - s) := ⟨_, rfl⟩
  obtain ⟨v, hvd⟩ : ∃ v, v = (lo * 2 ^ s) % 18446744073709551616 := ⟨_, rfl⟩
  obtain ⟨v1, hv1d⟩ : ∃ v1, v1 = v / 4294967296 := ⟨_, rfl⟩
  obtain ⟨v0, hv0d⟩ : ∃ v0, v0 = v % 4294967296 := ⟨_, rfl⟩
  have hu : u * 18446744073709551616 + v = (hi * 18446744073709551616 + lo) * 2 ^ s ∧ u < Y := by
    rw [hvd, hud]; exact ⟨k2, k3⟩
  have R2 : (Y : Int) / 4294967296 = (y1 : Int) := by omega
  have R3 : bits .and .u64 (Y : Int) 4294967295 = (y0 : Int) := (u64_mask32 Y n4).trans (by rw [hy0d])
  have R4 : bits .or .u64 (IntKind.u64.wrap ((hi : Int) * 2 ^ s)) ((lo : Int) / 2 ^ (64 - s)) = (u : Int) := by
    have e1 : ((hi : Int) * 2 ^ s) = ((hi * 2 ^ s : Nat) : Int) := by simp
    have e2 : ((lo : Int) / 2 ^ (64 - s)) = ((lo / 2 ^ (64 - s) : Nat) : Int) := by simp
    have hl : lo / 2 ^ (64 - s) ≤ lo := Nat.div_le_self _ _
    have hx : hi * 2 ^ s < 18446744073709551616 := Nat.lt_of_le_of_lt (Nat.le_add_right _ _) (Nat.lt_trans k3 n4)
    have e3 : IntKind.u64.wrap ((hi * 2 ^ s : Nat) : Int) = ((hi * 2 ^ s : Nat) : Int) := by
      generalize hi * 2 ^ s = z at hx; rw [IntKind.wrap_u64]; omega
    rw [e1, e2, e3, bits_or_u64_nat _ _ hx (by omega), k1, ← hud]
  have R5 : IntKind.u64.wrap ((lo : Int) * 2 ^ s) = (v : Int) := by
    have e : ((lo : Int) * 2 ^ s) = ((lo * 2 ^ s : Nat) : Int) := by simp
    rw [e, IntKind.wrap_u64]; omega
  have R6 : (v : Int) / 4294967296 = (v1 : Int) := by omega
  have R7 : bits .and .u64 (v : Int) 4294967295 = (v0 : Int) := (u64_mask32 v (by omega)).trans (by rw [hv0d])
  obtain ⟨hu1, hu2⟩ := hu
  have hy1p : 0 < y1 := by omega
  have hy1b : y1 < 4294967296 := by omega
  have hy0b : y0 < 4294967296 := by omega
  have hv1b : v1 < 4294967296 := by omega
  have hv0b : v0 < 4294967296 := by omega
  have HY : Hid (Y = y1 * 4294967296 + y0) := Lib.hid (by omega)
  have HV : Hid (v = v1 * 4294967296 + v0) := Lib.hid (by omega)
  have HU := Lib.hid hu1
  obtain ⟨q1, hq1d⟩ : ∃ q1, q1 = (u * 4294967296 + v1) / Y := ⟨_, rfl⟩
  have HQ1 := Lib.hid hq1d
  have hub : u < 18446744073709551616 := by omega
  have hdd := Nat.div_le_self u y1
  have R8 : IntKind.u64.wrap ((u : Int) / (y1 : Int)) = ((u / y1 : Nat) : Int) := by
    rw [IntKind.wrap_u64, ← Int.natCast_ediv]; exact Int.emod_eq_of_lt (Int.natCast_nonneg _) (by omega)
  clear k1 k2 k3 hu1 hud hvd hv1d hv0d hy1d hy0d hq1d hdd
  go_enter Try.func36, Try.ntmps36
  go_upto_block 0 with (go_at_call 58; refine (HQ.out _ (by omega) (by omega)).mono ?_; rintro e w' ⟨rfl, rfl⟩)
  go_cut [15] (fun s15 wc => s15 = .int .u64 (q1 : Nat) ∧ wc = w')
  case first =>
    go_wp2
    go_loop [15, 16] (fun a b => ∃ q r : Nat, a = .int .u64 q ∧ b = .int .u64 r ∧ Hid (u = q * y1 + r) ∧ q1 ≤ q ∧ r < 4294967296 ∧ q < 18446744073709551616) (fun a _ => (intOf a).toNat)
    case atStart =>
      refine ⟨u / y1, u % y1, ?_, ?_, Lib.hid ?_, ?_, ?_, ?_⟩
      · simp
      · rw [kn_rem u y1 hub]
      · rw [Nat.mul_comm]; exact (Nat.div_add_mod u y1).symm
      · rw [HQ1.out, HY.out]; exact kn_start y1 y0 u v1 hy1p hv1b
      · have := Nat.mod_lt u hy1p; omega
      · have := Nat.div_le_self u y1; omega
    case round =>
      obtain ⟨q, r, rfl, rfl, hqr, hq1, hr, hqb⟩ := hrel
      have hYp : 0 < Y := by omega
      by_cases hbig : (4294967296 : Int) ≤ (q : Int)
      · have hlt := kn_next Y y1 y0 u v1 q r HY.out hYp hu2 hv1b hqr.out (.inl (by omega))
        rw [← HQ1.out] at hlt
        have hdn := Lib.hid (kn_down y1 u q r (by omega) hqr.out)
        by_cases hrb : (4294967296 : Int) ≤ (r : Int) + (y1 : Int)
        · have hfin : q - 1 = q1 := by
            rw [HQ1.out]
            refine kn_done Y _ (q - 1) hYp ?_ (by rw [← HQ1.out]; omega)
            rw [HY.out]
            exact kn_break y1 y0 u v1 (q - 1) (r + y1) hdn.out (by rw [← HY.out]; exact hu2) hy0b (by omega)
          have Hfin := Lib.hid hfin
          clear hfin
          go_wp2
          go_meet
          case rel => exact ⟨by rw [← Hfin.out]; congr 1; omega, rfl⟩
        · go_wp2
          refine ⟨⟨q - 1, r + y1, by congr 1; omega, by congr 1, hdn, by omega, by omega, by omega⟩, ?_⟩
          show ((q : Int) - 1).toNat < (q : Int).toNat
          omega
      · obtain ⟨P, hP⟩ : ∃ P, P = q * y0 := ⟨_, rfl⟩
        have hPb : P ≤ 4294967295 * 4294967295 := by rw [hP]; exact Nat.mul_le_mul (by omega) (by omega)
        have RP : IntKind.u64.wrap ((q : Int) * (y0 : Int)) = (P : Int) := by
          have e : ((q : Int) * (y0 : Int)) = ((q * y0 : Nat) : Int) := by simp
          rw [e, IntKind.wrap_u64, ← hP]; omega
        have HP := Lib.hid hP
        clear hP hPb
        by_cases ht : (4294967296 : Int) * (r : Int) + (v1 : Int) < (P : Int)
        · have hlt := kn_next Y y1 y0 u v1 q r HY.out hYp hu2 hv1b hqr.out (.inr (by rw [← HP.out]; omega))
          rw [← HQ1.out] at hlt
          have hdn := Lib.hid (kn_down y1 u q r (by omega) hqr.out)
          by_cases hrb : (4294967296 : Int) ≤ (r : Int) + (y1 : Int)
          · have hfin : q - 1 = q1 := by
              rw [HQ1.out]
              refine kn_done Y _ (q - 1) hYp ?_ (by rw [← HQ1.out]; omega)
              rw [HY.out]
              exact kn_break y1 y0 u v1 (q - 1) (r + y1) hdn.out (by rw [← HY.out]; exact hu2) hy0b (by omega)
            have Hfin := Lib.hid hfin
            clear hfin
            go_wp2
            go_meet
            case rel => exact ⟨by rw [← Hfin.out]; congr 1; omega, rfl⟩
          · go_wp2
            refine ⟨⟨q - 1, r + y1, by congr 1; omega, by congr 1, hdn, by omega, by omega, by omega⟩, ?_⟩
            show ((q : Int) - 1).toNat < (q : Int).toNat
            omega
        · have hfin : q = q1 := by
            rw [HQ1.out]
            exact kn_exit Y y1 y0 u v1 q r HY.out hYp hqr.out (by rw [← HQ1.out]; exact hq1) (by rw [← HP.out]; omega)
          have Hfin := Lib.hid hfin
          clear hfin
          go_wp2
          go_meet
          case rel => exact ⟨by rw [← Hfin.out], rfl⟩
  case rest =>
    obtain ⟨rfl, rfl⟩ := hcut
    obtain ⟨m, hmd⟩ : ∃ m, m = (u * 4294967296 + v1) % Y := ⟨_, rfl⟩
    have hYp : 0 < Y := by omega
    have hm2 : m < Y := by rw [hmd]; exact Nat.mod_lt _ hYp
    have hmb : m < 18446744073709551616 := by omega
    have R9 : IntKind.u64.wrap (IntKind.u64.wrap (IntKind.u64.wrap ((u : Int) * 4294967296) + (v1 : Int)) - IntKind.u64.wrap ((q1 : Int) * (Y : Int))) = (m : Int) := by
      rw [hmd]; exact kn_left u v1 q1 Y HQ1.out hYp n4
    have HM := Lib.hid hmd
    have hdm := Nat.div_le_self m y1
    have R10 : IntKind.u64.wrap ((m : Int) / (y1 : Int)) = ((m / y1 : Nat) : Int) := by
      rw [IntKind.wrap_u64, ← Int.natCast_ediv]; exact Int.emod_eq_of_lt (Int.natCast_nonneg _) (by omega)
    obtain ⟨q2, hq2d⟩ : ∃ q2, q2 = (m * 4294967296 + v0) / Y := ⟨_, rfl⟩
    have HQ2 := Lib.hid hq2d
    obtain ⟨x, hxd⟩ : ∃ x, x = (m * 4294967296 + v0) % Y := ⟨_, rfl⟩
    have R11 : IntKind.u64.wrap (IntKind.u64.wrap (IntKind.u64.wrap ((m : Int) * 4294967296) + (v0 : Int)) - IntKind.u64.wrap ((q2 : Int) * (Y : Int))) = (x : Int) := by
      rw [hxd]; exact kn_left m v0 q2 Y hq2d hYp n4
    have hq1b := kn_less Y u v1 hu2 hv1b
    rw [← HQ1.out] at hq1b
    have hq2b := kn_less Y m v0 hm2 hv0b
    rw [← HQ2.out] at hq2b
    have HX := Lib.hid hxd
    clear hmd hq2d hxd hdm
    obtain ⟨wd, hwd⟩ : ∃ wd, wd = wc := ⟨_, rfl⟩
    subst hwd
    go_upto_block 2 with fail
    go_cut [18] (fun s18 wc => s18 = .int .u64 (q2 : Nat) ∧ wc = wd)
    case first =>
      go_wp2
      go_loop [18, 16] (fun a b => ∃ q r : Nat, a = .int .u64 q ∧ b = .int .u64 r ∧ Hid (m = q * y1 + r) ∧ q2 ≤ q ∧ r < 4294967296 ∧ q < 18446744073709551616) (fun a _ => (intOf a).toNat)
      case atStart =>
        refine ⟨m / y1, m % y1, ?_, ?_, Lib.hid ?_, ?_, ?_, ?_⟩
        · simp
        · rw [kn_rem m y1 hmb]
        · rw [Nat.mul_comm]; exact (Nat.div_add_mod m y1).symm
        · rw [HQ2.out, HY.out]; exact kn_start y1 y0 m v0 hy1p hv0b
        · have := Nat.mod_lt m hy1p; omega
        · have := Nat.div_le_self m y1; omega
      case round =>
        obtain ⟨q, r, rfl, rfl, hqr, hq2, hr, hqb⟩ := hrel
        have hYp : 0 < Y := by omega
        by_cases hbig : (4294967296 : Int) ≤ (q : Int)
        · have hlt := kn_next Y y1 y0 m v0 q r HY.out hYp hm2 hv0b hqr.out (.inl (by omega))
          rw [← HQ2.out] at hlt
          have hdn := Lib.hid (kn_down y1 m q r (by omega) hqr.out)
          by_cases hrb : (4294967296 : Int) ≤ (r : Int) + (y1 : Int)
          · have hfin : q - 1 = q2 := by
              rw [HQ2.out]
              refine kn_done Y _ (q - 1) hYp ?_ (by rw [← HQ2.out]; omega)
              rw [HY.out]
              exact kn_break y1 y0 m v0 (q - 1) (r + y1) hdn.out (by rw [← HY.out]; exact hm2) hy0b (by omega)
            have Hfin := Lib.hid hfin
            clear hfin
            go_wp2
            go_meet
            case rel => exact ⟨by rw [← Hfin.out]; congr 1; omega, rfl⟩
          · go_wp2
            refine ⟨⟨q - 1, r + y1, by congr 1; omega, by congr 1, hdn, by omega, by omega, by omega⟩, ?_⟩
            show ((q : Int) - 1).toNat < (q : Int).toNat
            omega
        · obtain ⟨P, hP⟩ : ∃ P, P = q * y0 := ⟨_, rfl⟩
          have hPb : P ≤ 4294967295 * 4294967295 := by rw [hP]; exact Nat.mul_le_mul (by omega) (by omega)
          have RP : IntKind.u64.wrap ((q : Int) * (y0 : Int)) = (P : Int) := by
            have e : ((q : Int) * (y0 : Int)) = ((q * y0 : Nat) : Int) := by simp
            rw [e, IntKind.wrap_u64, ← hP]; omega
          have HP := Lib.hid hP
          clear hP hPb
          by_cases ht : (4294967296 : Int) * (r : Int) + (v0 : Int) < (P : Int)
          · have hlt := kn_next Y y1 y0 m v0 q r HY.out hYp hm2 hv0b hqr.out (.inr (by rw [← HP.out]; omega))
            rw [← HQ2.out] at hlt
            have hdn := Lib.hid (kn_down y1 m q r (by omega) hqr.out)
            by_cases hrb : (4294967296 : Int) ≤ (r : Int) + (y1 : Int)
            · have hfin : q - 1 = q2 := by
                rw [HQ2.out]
                refine kn_done Y _ (q - 1) hYp ?_ (by rw [← HQ2.out]; omega)
                rw [HY.out]
                exact kn_break y1 y0 m v0 (q - 1) (r + y1) hdn.out (by rw [← HY.out]; exact hm2) hy0b (by omega)
              have Hfin := Lib.hid hfin
              clear hfin
              go_wp2
              go_meet
              case rel => exact ⟨by rw [← Hfin.out]; congr 1; omega, rfl⟩
            · go_wp2
              refine ⟨⟨q - 1, r + y1, by congr 1; omega, by congr 1, hdn, by omega, by omega, by omega⟩, ?_⟩
              show ((q : Int) - 1).toNat < (q : Int).toNat
              omega
          · have hfin : q = q2 := by
              rw [HQ2.out]
              exact kn_exit Y y1 y0 m v0 q r HY.out hYp hqr.out (by rw [← HQ2.out]; exact hq2) (by rw [← HP.out]; omega)
            have Hfin := Lib.hid hfin
            clear hfin
            go_wp2
            go_meet
            case rel => exact ⟨by rw [← Hfin.out], rfl⟩
    case rest =>
      obtain ⟨rfl, rfl⟩ := hcut
      go_wp2
      go_ret2
      obtain ⟨f1, f2⟩ := kn_fin (hi * 18446744073709551616 + lo) y Y u v v1 v0 m q1 q2 x s HU.out HV.out HYd.out hYp HQ1.out HM.out HQ2.out HX.out
      refine ⟨ret_of ?_, Below.refl _ _⟩
      show Value.tuple #[.int .u64 ((q1 : Int) * 4294967296 + (q2 : Int)), .int .u64 ((x : Int) / 2 ^ s)] = _
      rw [← f1, ← f2]
      simp

/-- Div64, where the high part is less than the divisor -/
theorem div64_any (hi lo y : Nat) (w : World) (hy : hi < y) (hY : y < 18446744073709551616) (hlo : lo < 18446744073709551616) :
    Calls Try.prog 36 #[.int .u64 hi, .int .u64 lo, .int .u64 y] w fun e w' => e = .returned (.tuple #[.int .u64 ((hi * 18446744073709551616 + lo) / y : Nat), .int .u64 ((hi * 18446744073709551616 + lo) % y : Nat)]) ∧ Below w.heap.size w w' := by
  by_cases h : hi = 0
  · subst h
    have h := div64_small lo y w hy hlo
    simp only [Nat.zero_mul, Nat.zero_add]
    exact h
  · exact div64_great hi lo y w (by omega) hy hY hlo

end Go.Proofs.Ytffamgiknfphaaa
