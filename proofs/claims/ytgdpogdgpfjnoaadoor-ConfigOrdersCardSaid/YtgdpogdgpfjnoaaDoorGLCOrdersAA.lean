import Derived.Test.YtgdpogdgpfjnoaaDoorGCAP
import Derived.Test.YtgdpogdgpfjnoaaDoorGCAL
set_option linter.all false
namespace Go.Proofs.YtgdpogdgpfjnoaaDoor
open Go Go.RowKit Go.Sort Sx
open Go.Lib hiding intOf
theorem ord_40 {a : Ak} (h : akchk a = 0) : (ordT a).length ≤ 40 := by
  have e5 : (10 : Nat) ^ 5 = 100000 := by decide
  have e7 : (10 : Nat) ^ 7 = 10000000 := by decide
  rcases ord_cases h with ⟨k, hk, ⟨i, x, y⟩, hp, rfl⟩ | ⟨i, h1, h2, rfl⟩ | ⟨n, d, hd, rfl⟩ | ⟨k, hk, rfl⟩
  · obtain ⟨h1, h2, h3, h4, h5, h6⟩ := cpt_ok (i := i) (a := x) (b := y) hp
    have l1 := itoa_len_le (n := i) (k := 5) (by decide) (by rw [e5]; omega)
    have l2 := itoa_len_le (n := x) (k := 7) (by decide) (by rw [e7]; omega)
    have l3 := itoa_len_le (n := y) (k := 7) (by decide) (by rw [e7]; omega)
    have hl : (pointS ⟨i, x, y⟩).length ≤ 24 := by show (itoa i ++ 32 :: (itoa x ++ 32 :: itoa y)).length ≤ 24; simp only [List.length_append, List.length_cons]; omega
    rcases hk with rfl | rfl
    · have e : ordT ⟨1, ⟨i, x, y⟩, 0, 0, 0⟩ = [112, 117, 116, 32] ++ pointS ⟨i, x, y⟩ := rfl
      rw [e, List.length_append, List.length_cons, List.length_cons, List.length_cons, List.length_cons, List.length_nil]; omega
    · have e : ordT ⟨3, ⟨i, x, y⟩, 0, 0, 0⟩ = [99, 104, 97, 110, 103, 101, 32] ++ pointS ⟨i, x, y⟩ := rfl
      rw [e]; simp only [List.length_append, List.length_cons, List.length_nil]; omega
  · have l1 := itoa_len_le (n := i) (k := 5) (by decide) (by rw [e5]; omega)
    have e : ordT ⟨2, ⟨0, 0, 0⟩, i, 0, 0⟩ = [116, 97, 107, 101, 32] ++ itoa i := rfl
    rw [e]; simp only [List.length_append, List.length_cons, List.length_nil]; omega
  · have l1 := wrt_len hd
    have e : ordT ⟨4, ⟨0, 0, 0⟩, 0, n, d⟩ = [109, 111, 118, 101, 32] ++ wrtV n d := rfl
    rw [e]; simp only [List.length_append, List.length_cons, List.length_nil]; omega
  · rcases hk with rfl | rfl <;> decide
theorem ord_inj {a b : Ak} (ha : akchk a = 0) (hb : akchk b = 0) (h : ordT a = ordT b) : a = b := by
  have h1 := rordV_is.of a ha
  rw [h, rordV_is.of b hb] at h1
  exact (Prod.mk.inj h1).1.symm
theorem ordSV_ok {a : Ak} (h : akchk a = 0) : ordSV a = (ordT a, 0) := if_pos h
theorem ordSV_no {a : Ak} (h : akchk a = 8) : ordSV a = ([], 8) := if_neg (by omega)
set_option maxRecDepth 100000 in
set_option maxHeartbeats 4000000 in
theorem LCOrders_fn (a b : Ak) (s : Str) (hs0 : s.length ≤ 9223372036854775807) : FnOK Tryd.prog 6 [a.dc, b.dc, .one (str s)] (.c (.one (bol true))) := by
  have HA := CLalive_fn
  by_cases h : s.length ≤ 100
  · have H1 := cOrder_fn a
    have H2 := cOrder_fn b
    have C1 := dcCheck_fn a
    have C2 := r36Check_fn a
    have C3 := r36Check_fn b
    have H3 := cReadOrder_fn s (by omega)
    have hab : ∀ (ha : akchk a = 0) (hb : akchk b = 0), ordT a = ordT b ↔ a = b := fun ha hb => ⟨ord_inj ha hb, fun h => by rw [h]⟩
    have hor : akchk a = 0 → rordV (ordT a) = (a, 0) ∧ (ordT a).length ≤ 40 := fun ha => ⟨rordV_is.of a ha, ord_40 ha⟩
    have R1 := fun h => rordV_is.ok s h
    have R2 := fun h => rordV_is.no s h
    obtain ⟨c, e, hy⟩ : ∃ c e, rordV s = (c, e) := ⟨_, _, rfl⟩
    rw [hy] at H3 R1 R2
    simp only at R1 R2
    have H4 := cOrder_fn c
    have key : (e = 0 ∧ ordSV c = (s, 0)) ∨ (e = 12 ∧ c = ak0) := by
      by_cases h0 : e = 0
      · obtain ⟨q1, q2⟩ := R1 h0
        exact .inl ⟨h0, by rw [ordSV_ok q1, q2]⟩
      · have := R2 h0
        exact .inr ⟨(Prod.mk.inj this).2, (Prod.mk.inj this).1⟩
    clear R1 R2 hy
    rcases akchk_08 a with ha | ha
    · obtain ⟨o1, o2⟩ := hor ha
      have H5 := cReadOrder_fn (ordT a) (by omega)
      rw [o1] at H5
      rw [ordSV_ok ha] at H1
      rw [ha] at C1 C2
      rcases akchk_08 b with hb | hb
      · rw [ordSV_ok hb] at H2
        rw [hb] at C3
        have hiff := hab ha hb
        clear hab hor
        generalize ordT a = x at *
        generalize ordT b = y at *
        obtain ⟨a1, ⟨a2, a3, a4⟩, a5, a6, a7⟩ := a
        obtain ⟨b1, ⟨b2, b3, b4⟩, b5, b6, b7⟩ := b
        have hX : (!(decide (x = y) == decide (a1 = b1 ∧ a2 = b2 ∧ a3 = b3 ∧ a4 = b4 ∧ a5 = b5 ∧ a6 = b6 ∧ a7 = b7))) = false := by
          have : x = y ↔ (a1 = b1 ∧ a2 = b2 ∧ a3 = b3 ∧ a4 = b4 ∧ a5 = b5 ∧ a6 = b6 ∧ a7 = b7) := by
            rw [hiff]
            simp only [Ak.mk.injEq, Pt.mk.injEq]
            exact ⟨fun ⟨h1, ⟨h2, h3, h4⟩, h5, h6, h7⟩ => ⟨h1, h2, h3, h4, h5, h6, h7⟩, fun ⟨h1, h2, h3, h4, h5, h6, h7⟩ => ⟨h1, ⟨h2, h3, h4⟩, h5, h6, h7⟩⟩
          simp [this]
        clear hiff ha hb o1
        rcases key with ⟨rfl, ek⟩ | ⟨rfl, rfl⟩
        · rw [ek] at H4
          obtain ⟨c1, ⟨c2, c3, c4⟩, c5, c6, c7⟩ := c
          simp only [retS, retAk, Ak.dc] at *
          refine fn_ok (by kernel_rfl) ty_ok Tryd.func6 rfl (fun _ _ => Tryd.call6 _ _) rfl ?_
          intro hw
          clear hw
          repeat' ((conv => whnf); first | (with_reducible first | refine br_t ?_ | refine br_f ?_ | refine za ?_ | refine zg ?_) | refine zsl ?_ | refine zsg ?_ | refine zss ?_ | refine zs1 ?_ | refine zse ?_ | refine zsn ?_ | refine zsc ?_ | (with_reducible first | refine zpa ?_ | refine zqa ?_) | refine zp ?_ | refine zq ?_ | (with_reducible first | refine bc (fun h => ?_) (fun h => ?_) | refine zt ?_ | refine zf ?_ | refine br_i (fun h => ?_) (fun h => ?_) | refine xi (pv_bool fun _ => eqv48 _ _ _ _ _ _ _ _ _ _ _ _ _ _ _ _ _) ?_ | refine xi (pv_bool fun _ => nev48 _ _ _ _ _ _ _ _ _ _ _ _ _ _ _ _ _) ?_) | refine zg ?_ | refine zi ?_ | refine zb ?_)
          all_goals conv => whnf
          all_goals first | rfl | (exfalso; omega) | (exfalso; rename_i h; exact absurd h (by decide)) | exact r_bool (by simp)
        · simp only [retS, retAk, Ak.dc, ak0] at *
          refine fn_ok (by kernel_rfl) ty_ok Tryd.func6 rfl (fun _ _ => Tryd.call6 _ _) rfl ?_
          intro hw
          clear hw
          repeat' ((conv => whnf); first | (with_reducible first | refine br_t ?_ | refine br_f ?_ | refine za ?_ | refine zg ?_) | refine zsl ?_ | refine zsg ?_ | refine zss ?_ | refine zs1 ?_ | refine zse ?_ | refine zsn ?_ | refine zsc ?_ | (with_reducible first | refine zpa ?_ | refine zqa ?_) | refine zp ?_ | refine zq ?_ | (with_reducible first | refine bc (fun h => ?_) (fun h => ?_) | refine zt ?_ | refine zf ?_ | refine br_i (fun h => ?_) (fun h => ?_) | refine xi (pv_bool fun _ => eqv48 _ _ _ _ _ _ _ _ _ _ _ _ _ _ _ _ _) ?_ | refine xi (pv_bool fun _ => nev48 _ _ _ _ _ _ _ _ _ _ _ _ _ _ _ _ _) ?_) | refine zg ?_ | refine zi ?_ | refine zb ?_)
          all_goals conv => whnf
          all_goals first | rfl | (exfalso; omega) | (exfalso; rename_i h; exact absurd h (by decide)) | exact r_bool (by simp)
      · rw [ordSV_no hb] at H2
        rw [hb] at C3
        clear hab hor
        generalize ordT a = x at *
        obtain ⟨a1, ⟨a2, a3, a4⟩, a5, a6, a7⟩ := a
        obtain ⟨b1, ⟨b2, b3, b4⟩, b5, b6, b7⟩ := b
        clear ha hb o1
        rcases key with ⟨rfl, ek⟩ | ⟨rfl, rfl⟩
        · rw [ek] at H4
          obtain ⟨c1, ⟨c2, c3, c4⟩, c5, c6, c7⟩ := c
          simp only [retS, retAk, Ak.dc] at *
          refine fn_ok (by kernel_rfl) ty_ok Tryd.func6 rfl (fun _ _ => Tryd.call6 _ _) rfl ?_
          intro hw
          clear hw
          repeat' ((conv => whnf); first | (with_reducible first | refine br_t ?_ | refine br_f ?_ | refine za ?_ | refine zg ?_) | refine zsl ?_ | refine zsg ?_ | refine zss ?_ | refine zs1 ?_ | refine zse ?_ | refine zsn ?_ | refine zsc ?_ | (with_reducible first | refine zpa ?_ | refine zqa ?_) | refine zp ?_ | refine zq ?_ | (with_reducible first | refine bc (fun h => ?_) (fun h => ?_) | refine zt ?_ | refine zf ?_ | refine br_i (fun h => ?_) (fun h => ?_) | refine xi (pv_bool fun _ => eqv48 _ _ _ _ _ _ _ _ _ _ _ _ _ _ _ _ _) ?_ | refine xi (pv_bool fun _ => nev48 _ _ _ _ _ _ _ _ _ _ _ _ _ _ _ _ _) ?_) | refine zg ?_ | refine zi ?_ | refine zb ?_)
          all_goals conv => whnf
          all_goals first | rfl | (exfalso; omega) | (exfalso; rename_i h; exact absurd h (by decide)) | exact r_bool (by simp)
        · simp only [retS, retAk, Ak.dc, ak0] at *
          refine fn_ok (by kernel_rfl) ty_ok Tryd.func6 rfl (fun _ _ => Tryd.call6 _ _) rfl ?_
          intro hw
          clear hw
          repeat' ((conv => whnf); first | (with_reducible first | refine br_t ?_ | refine br_f ?_ | refine za ?_ | refine zg ?_) | refine zsl ?_ | refine zsg ?_ | refine zss ?_ | refine zs1 ?_ | refine zse ?_ | refine zsn ?_ | refine zsc ?_ | (with_reducible first | refine zpa ?_ | refine zqa ?_) | refine zp ?_ | refine zq ?_ | (with_reducible first | refine bc (fun h => ?_) (fun h => ?_) | refine zt ?_ | refine zf ?_ | refine br_i (fun h => ?_) (fun h => ?_) | refine xi (pv_bool fun _ => eqv48 _ _ _ _ _ _ _ _ _ _ _ _ _ _ _ _ _) ?_ | refine xi (pv_bool fun _ => nev48 _ _ _ _ _ _ _ _ _ _ _ _ _ _ _ _ _) ?_) | refine zg ?_ | refine zi ?_ | refine zb ?_)
          all_goals conv => whnf
          all_goals first | rfl | (exfalso; omega) | (exfalso; rename_i h; exact absurd h (by decide)) | exact r_bool (by simp)
    · rw [ordSV_no ha] at H1
      rw [ha] at C1 C2
      clear hab hor
      rcases akchk_08 b with hb | hb
      all_goals rw [hb] at C3
      · rw [ordSV_ok hb] at H2
        generalize ordT b = y at *
        obtain ⟨a1, ⟨a2, a3, a4⟩, a5, a6, a7⟩ := a
        obtain ⟨b1, ⟨b2, b3, b4⟩, b5, b6, b7⟩ := b
        clear ha hb
        rcases key with ⟨rfl, ek⟩ | ⟨rfl, rfl⟩
        · rw [ek] at H4
          obtain ⟨c1, ⟨c2, c3, c4⟩, c5, c6, c7⟩ := c
          simp only [retS, retAk, Ak.dc] at *
          refine fn_ok (by kernel_rfl) ty_ok Tryd.func6 rfl (fun _ _ => Tryd.call6 _ _) rfl ?_
          intro hw
          clear hw
          repeat' ((conv => whnf); first | (with_reducible first | refine br_t ?_ | refine br_f ?_ | refine za ?_ | refine zg ?_) | refine zsl ?_ | refine zsg ?_ | refine zss ?_ | refine zs1 ?_ | refine zse ?_ | refine zsn ?_ | refine zsc ?_ | (with_reducible first | refine zpa ?_ | refine zqa ?_) | refine zp ?_ | refine zq ?_ | (with_reducible first | refine bc (fun h => ?_) (fun h => ?_) | refine zt ?_ | refine zf ?_ | refine br_i (fun h => ?_) (fun h => ?_) | refine xi (pv_bool fun _ => eqv48 _ _ _ _ _ _ _ _ _ _ _ _ _ _ _ _ _) ?_ | refine xi (pv_bool fun _ => nev48 _ _ _ _ _ _ _ _ _ _ _ _ _ _ _ _ _) ?_) | refine zg ?_ | refine zi ?_ | refine zb ?_)
          all_goals conv => whnf
          all_goals first | rfl | (exfalso; omega) | (exfalso; rename_i h; exact absurd h (by decide)) | exact r_bool (by simp)
        · simp only [retS, retAk, Ak.dc, ak0] at *
          refine fn_ok (by kernel_rfl) ty_ok Tryd.func6 rfl (fun _ _ => Tryd.call6 _ _) rfl ?_
          intro hw
          clear hw
          repeat' ((conv => whnf); first | (with_reducible first | refine br_t ?_ | refine br_f ?_ | refine za ?_ | refine zg ?_) | refine zsl ?_ | refine zsg ?_ | refine zss ?_ | refine zs1 ?_ | refine zse ?_ | refine zsn ?_ | refine zsc ?_ | (with_reducible first | refine zpa ?_ | refine zqa ?_) | refine zp ?_ | refine zq ?_ | (with_reducible first | refine bc (fun h => ?_) (fun h => ?_) | refine zt ?_ | refine zf ?_ | refine br_i (fun h => ?_) (fun h => ?_) | refine xi (pv_bool fun _ => eqv48 _ _ _ _ _ _ _ _ _ _ _ _ _ _ _ _ _) ?_ | refine xi (pv_bool fun _ => nev48 _ _ _ _ _ _ _ _ _ _ _ _ _ _ _ _ _) ?_) | refine zg ?_ | refine zi ?_ | refine zb ?_)
          all_goals conv => whnf
          all_goals first | rfl | (exfalso; omega) | (exfalso; rename_i h; exact absurd h (by decide)) | exact r_bool (by simp)
      · rw [ordSV_no hb] at H2
        obtain ⟨a1, ⟨a2, a3, a4⟩, a5, a6, a7⟩ := a
        obtain ⟨b1, ⟨b2, b3, b4⟩, b5, b6, b7⟩ := b
        clear ha hb
        rcases key with ⟨rfl, ek⟩ | ⟨rfl, rfl⟩
        · rw [ek] at H4
          obtain ⟨c1, ⟨c2, c3, c4⟩, c5, c6, c7⟩ := c
          simp only [retS, retAk, Ak.dc] at *
          refine fn_ok (by kernel_rfl) ty_ok Tryd.func6 rfl (fun _ _ => Tryd.call6 _ _) rfl ?_
          intro hw
          clear hw
          repeat' ((conv => whnf); first | (with_reducible first | refine br_t ?_ | refine br_f ?_ | refine za ?_ | refine zg ?_) | refine zsl ?_ | refine zsg ?_ | refine zss ?_ | refine zs1 ?_ | refine zse ?_ | refine zsn ?_ | refine zsc ?_ | (with_reducible first | refine zpa ?_ | refine zqa ?_) | refine zp ?_ | refine zq ?_ | (with_reducible first | refine bc (fun h => ?_) (fun h => ?_) | refine zt ?_ | refine zf ?_ | refine br_i (fun h => ?_) (fun h => ?_) | refine xi (pv_bool fun _ => eqv48 _ _ _ _ _ _ _ _ _ _ _ _ _ _ _ _ _) ?_ | refine xi (pv_bool fun _ => nev48 _ _ _ _ _ _ _ _ _ _ _ _ _ _ _ _ _) ?_) | refine zg ?_ | refine zi ?_ | refine zb ?_)
          all_goals conv => whnf
          all_goals first | rfl | (exfalso; omega) | (exfalso; rename_i h; exact absurd h (by decide)) | exact r_bool (by simp)
        · simp only [retS, retAk, Ak.dc, ak0] at *
          refine fn_ok (by kernel_rfl) ty_ok Tryd.func6 rfl (fun _ _ => Tryd.call6 _ _) rfl ?_
          intro hw
          clear hw
          repeat' ((conv => whnf); first | (with_reducible first | refine br_t ?_ | refine br_f ?_ | refine za ?_ | refine zg ?_) | refine zsl ?_ | refine zsg ?_ | refine zss ?_ | refine zs1 ?_ | refine zse ?_ | refine zsn ?_ | refine zsc ?_ | (with_reducible first | refine zpa ?_ | refine zqa ?_) | refine zp ?_ | refine zq ?_ | (with_reducible first | refine bc (fun h => ?_) (fun h => ?_) | refine zt ?_ | refine zf ?_ | refine br_i (fun h => ?_) (fun h => ?_) | refine xi (pv_bool fun _ => eqv48 _ _ _ _ _ _ _ _ _ _ _ _ _ _ _ _ _) ?_ | refine xi (pv_bool fun _ => nev48 _ _ _ _ _ _ _ _ _ _ _ _ _ _ _ _ _) ?_) | refine zg ?_ | refine zi ?_ | refine zb ?_)
          all_goals conv => whnf
          all_goals first | rfl | (exfalso; omega) | (exfalso; rename_i h; exact absurd h (by decide)) | exact r_bool (by simp)
  · simp only [Ak.dc]
    refine fn_ok (by kernel_rfl) ty_ok Tryd.func6 rfl (fun _ _ => Tryd.call6 _ _) rfl ?_
    intro hw
    clear hw
    repeat' ((conv => whnf); first | (with_reducible first | refine br_t ?_ | refine br_f ?_ | refine za ?_ | refine zg ?_) | refine zsl ?_ | refine zsg ?_ | refine zss ?_ | refine zs1 ?_ | refine zse ?_ | refine zsn ?_ | refine zsc ?_ | (with_reducible first | refine zpa ?_ | refine zqa ?_) | refine zp ?_ | refine zq ?_ | (with_reducible first | refine bc (fun h => ?_) (fun h => ?_) | refine zt ?_ | refine zf ?_ | refine br_i (fun h => ?_) (fun h => ?_) | refine xi (pv_bool fun _ => eqv48 _ _ _ _ _ _ _ _ _ _ _ _ _ _ _ _ _) ?_ | refine xi (pv_bool fun _ => nev48 _ _ _ _ _ _ _ _ _ _ _ _ _ _ _ _ _) ?_) | refine zg ?_ | refine zi ?_ | refine zb ?_)
    all_goals conv => whnf
    all_goals first | rfl | (exfalso; omega)
end Go.Proofs.YtgdpogdgpfjnoaaDoor

namespace Go.Proofs.YtgdpogdgpfjnoaaDoor
open Go Go.RowKit Go.ChangeShapes Go.WideShapes Go.ChangeAt Sx
theorem configOrders_own : ownKnob Tryd.prog.godebug = none := by kernel_rfl
set_option maxRecDepth 100000 in
theorem configOrders_wit (os : Os) {H : Type} (enc : TypeId × Value → H) :
    (OpenSpec.ofChange Rows.configOrdersSpec).preRow enc Tryd.prog Tryd.f6 Rows.configOrdersRow.domain false Rows.configOrdersRow.laid ((laidWorld os).forCall (fun _ _ => 0) ⟨#[], #[.agg #[.int .u8 0, .int .i64 0, .int .i64 0, .int .i64 0, .int .i64 0, .int .i64 0, .int .i64 0], .agg #[.int .u8 0, .int .i64 0, .int .i64 0, .int .i64 0, .int .i64 0, .int .i64 0, .int .i64 0], .string ⟨#[]⟩], []⟩).memory #[.agg #[.int .u8 0, .int .i64 0, .int .i64 0, .int .i64 0, .int .i64 0, .int .i64 0, .int .i64 0], .agg #[.int .u8 0, .int .i64 0, .int .i64 0, .int .i64 0, .int .i64 0, .int .i64 0, .int .i64 0], .string ⟨#[]⟩] := by
  have hw : (DataW.whole enc Tryd.prog ((laidWorld os).forCall (fun _ _ => 0) ⟨#[], #[.agg #[.int .u8 0, .int .i64 0, .int .i64 0, .int .i64 0, .int .i64 0, .int .i64 0, .int .i64 0], .agg #[.int .u8 0, .int .i64 0, .int .i64 0, .int .i64 0, .int .i64 0, .int .i64 0, .int .i64 0], .string ⟨#[]⟩], []⟩).memory Tryd.f6.params.toList (OpenSpec.ofChange Rows.configOrdersSpec).vars false (#[.agg #[.int .u8 0, .int .i64 0, .int .i64 0, .int .i64 0, .int .i64 0, .int .i64 0, .int .i64 0], .agg #[.int .u8 0, .int .i64 0, .int .i64 0, .int .i64 0, .int .i64 0, .int .i64 0, .int .i64 0], .string ⟨#[]⟩] : Array Value).toList 8).map (fun x => (x.1, x.2.1)) =
      some ([.agg [.lit (.int .u8 0), .agg [.lit (.int .i64 0), .lit (.int .i64 0), .lit (.int .i64 0)], .lit (.int .i64 0), .agg [.lit (.int .i64 0), .lit (.int .i64 0)]], .agg [.lit (.int .u8 0), .agg [.lit (.int .i64 0), .lit (.int .i64 0), .lit (.int .i64 0)], .lit (.int .i64 0), .agg [.lit (.int .i64 0), .lit (.int .i64 0)]], .lit (.string [])], []) := by kernel_rfl
  obtain ⟨⟨x1, x2, x3⟩, hx, hx1⟩ := Option.map_eq_some_iff.1 hw
  simp only [Prod.mk.injEq] at hx1
  obtain ⟨rfl, rfl⟩ := hx1
  exact OpenSpec.preRow_of_cond 8 hx (by kernel_rfl) (fun k hk => by cases hk) (by kernel_rfl) (laid_met os _)
set_option maxRecDepth 100000 in
theorem configOrders_lifted (os : Os) (started : os.Started) (H : Type) (enc : TypeId × Value → H) (F : Stop.Interp) :
    ReturnsInHanded {} Tryd.checked os 6 .any ((OpenSpec.ofChange Rows.configOrdersSpec).preRow enc Tryd.prog Tryd.f6 Rows.configOrdersRow.domain false Rows.configOrdersRow.laid) (((OpenSpec.ofChange Rows.configOrdersSpec).at F).post enc Tryd.prog Tryd.f6 false true false false) := by
  refine returnsInHanded_of_row (C := Tryd.checked) (s := OpenSpec.ofChange Rows.configOrdersSpec) configOrders_own started (by kernel_rfl) Tryd.func6
    (witness_row_at (enc := enc) (C := Tryd.checked) false (laidWorld os) #[.agg #[.int .u8 0, .int .i64 0, .int .i64 0, .int .i64 0, .int .i64 0, .int .i64 0, .int .i64 0], .agg #[.int .u8 0, .int .i64 0, .int .i64 0, .int .i64 0, .int .i64 0, .int .i64 0, .int .i64 0], .string ⟨#[]⟩] rfl (by kernel_rfl) (by kernel_rfl) (by kernel_rfl) (configOrders_wit os enc)) ?_
  intro W base args ds gs before hval0 hW _ _ _ hL hsh _
  have hgd := gd_of hL hsh
  have hval : ∀ (j : Nat) t v, Tryd.f6.params[j]? = some t → args[j]? = some v → Value.okWide Tryd.prog W .any base t v := hval0
  have hW' := hW
  obtain ⟨p, q, hA0, hV, rfl, hfz, hnd⟩ := hW
  have hA : DataW.TrodAll enc Tryd.prog W 0 (fun _ => true) true Tryd.f6.params.toList args.toList ds p := hA0
  rw [Tryd.params6] at hA hval
  obtain ⟨v0, vs0, d0, ds0, p0, q0, hargs, rfl, rfl, h0, r0⟩ := trodAll_cons hA
  obtain ⟨v1, vs1, d1, ds1, p1, q1, rfl, rfl, rfl, h1, r1⟩ := trodAll_cons r0
  obtain ⟨v2, vs2, d2, ds2, p2, q2, rfl, rfl, rfl, h2, r2⟩ := trodAll_cons r1
  obtain ⟨rfl, rfl, rfl⟩ := trodAll_nil r2
  obtain rfl : args = #[v0, v1, v2] := by cases args; simp_all
  obtain ⟨e0, hd0, hf0⟩ := arg_data (tyB_ok (s := shAskC) (by kernel_rfl)) (hval 0 48 v0 rfl rfl) h0
  obtain ⟨a, rfl⟩ := fit_askC hf0
  obtain ⟨e1, hd1, hf1⟩ := arg_data (tyB_ok (s := shAskC) (by kernel_rfl)) (hval 1 48 v1 rfl rfl) h1
  obtain ⟨b, rfl⟩ := fit_askC hf1
  obtain ⟨e2, hd2, hf2⟩ := arg_data (tyB_ok (s := .str) (by kernel_rfl)) (hval 2 9 v2 rfl rfl) h2
  obtain ⟨s, hs, rfl⟩ := fit_str hf2
  refine (law_of_fn (vs := [v0, v1, v2]) (fun _ _ => Tryd.call6 _ _) (LCOrders_fn a b s hs) hgd ⟨hd0, hd1, hd2, trivial⟩).mono fun e W' ⟨he, hb⟩ => ?_
  subst he
  exact ⟨_, rfl, law_post (s := Rows.configOrdersSpec) (by kernel_rfl) (by kernel_rfl) rfl Tryd.underlying4 rfl hW' ⟨rfl, rfl, rfl⟩ hb⟩
theorem configOrders_and {a b : Bool} (h : a = true) (k : b = true) : (a && b) = true := by rw [h, k]; rfl
theorem configOrders_c0 : (Rows.configOrdersRow.inPlace == Tryd.prog.inPlace 6) = true := by kernel_rfl
theorem configOrders_c1 : (Rows.configOrdersRow.unfollowed == Tryd.prog.unfollowed 6) = true := by kernel_rfl
theorem configOrders_c2 : (Rows.configOrdersRow.recurses == Tryd.prog.recurses 6) = true := by kernel_rfl
theorem configOrders_c3 : (Rows.configOrdersRow.named == Tryd.prog.varsNamed 6) = true := by kernel_rfl
theorem configOrders_c4 : (Rows.configOrdersRow.loops == (Tryd.f6.params.toList ++ (OpenSpec.ofChange Rows.configOrdersSpec).bare.plain.varTypes Tryd.prog).any (Tryd.prog.loopsFrom ·)) = true := by kernel_rfl
theorem configOrders_c5 : laidOutB Tryd.prog = true := by kernel_rfl
theorem configOrders_c6 : mapsRowed Tryd.prog = true := by kernel_rfl
theorem configOrders_c7 : Tryd.prog.stopsHeard = true := by kernel_rfl
theorem configOrders_c8 : Tryd.prog.mayEnter = true := by kernel_rfl
theorem configOrders_facts : joinedFacts Tryd.prog 6 Tryd.f6 (OpenSpec.ofChange Rows.configOrdersSpec).bare Rows.configOrdersRow = true := by
  unfold joinedFacts
  repeat' (with_reducible refine configOrders_and ?_ ?_)
  all_goals first | with_reducible exact configOrders_c0 | with_reducible exact configOrders_c1 | with_reducible exact configOrders_c2 | with_reducible exact configOrders_c3 | with_reducible exact configOrders_c4 | with_reducible exact configOrders_c5 | with_reducible exact configOrders_c6 | with_reducible exact configOrders_c7 | with_reducible exact configOrders_c8 | kernel_rfl
theorem configOrders_over : Rows.configOrdersRow.holds Tryd.pinned (OpenSpec.ofChange Rows.configOrdersSpec) :=
  OpenClaim.holds_of_cond 6 Tryd.f6 rfl rfl rfl rfl rfl rfl rfl ⟨rfl, rfl, rfl, rfl, rfl⟩ rfl rfl rfl rfl rfl (by kernel_rfl) Tryd.func6 configOrders_facts
    (of_decide_eq_true (by kernel_rfl)) (by unfold Func.isWrapper; rw [if_neg (of_decide_eq_false (by kernel_rfl))]; exact ⟨rfl, rfl⟩)
    (fun os started H enc _ F0 => by rw [OpenClaim.pre_eq_preRow]; exact configOrders_lifted os started H enc F0)
theorem configOrders_params : (Tryd.f6.params.toList.all fun t => !Tryd.prog.wantsStandIn t) = true := by kernel_rfl
theorem configOrders_proved : Rows.ConfigOrdersCardSaid :=
  Claim7.holds_tied_plain_at .later [] Rows.configOrdersCard.laidKinds true Rows.configOrdersCard.stood.harness false
    configOrders_over (fun _ h => by cases h) (by kernel_rfl) (fun _ h => by cases h) configOrders_row_tie rfl ⟨rfl, rfl⟩ (by kernel_rfl) rfl
    (fun f fn hf hfn => by
      obtain rfl : f = 6 := Option.some.inj (hf.symm.trans (show Tryd.prog.funcNamed "peloton/pelotonlaw44.ConfigOrders" = some 6 by kernel_rfl))
      obtain rfl : fn = Tryd.f6 := (Option.some.inj (Tryd.func6.symm.trans hfn)).symm
      exact ⟨by kernel_rfl, fun j t ht => by
        have hm : t ∈ Tryd.f6.params.toList := by rw [Array.mem_toList_iff]; exact Array.mem_of_getElem? ht
        exact (by simpa using List.all_eq_true.1 configOrders_params t hm : Tryd.prog.wantsStandIn t = false)⟩)
    (by kernel_rfl)
#print axioms configOrders_proved
end Go.Proofs.YtgdpogdgpfjnoaaDoor
