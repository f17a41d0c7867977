import Derived.Test.YtnjgfhgpicmklaaGreatGQAT
import Derived.Test.YtnjgfhgpicmklaaGreatGQAW
set_option linter.all false
namespace Go.Proofs.YtnjgfhgpicmklaaGreat
open Go.RowKit Go.Sort Sx
theorem askd_ok {n d : Int} (h : askd n d = 0) : chk n d = 0 ∧ -1073741824 ≤ n ∧ n ≤ 1073741824 ∧ 1 ≤ d ∧ d ≤ 1024 := by
  unfold askd at h
  split at h
  · rename_i h1; exact absurd h h1
  · rename_i h1
    have h1 : chk n d = 0 := by omega
    have := (chk_iff n d).1 h1
    split at h
    · omega
    · exact ⟨h1, by omega⟩
theorem Pt.chk_ok {p : Pt} (h : p.chk = 0) : 0 ≤ p.id ∧ p.id ≤ 65535 ∧ -1048576 ≤ p.a ∧ p.a ≤ 1048576 ∧ -1048576 ≤ p.b ∧ p.b ≤ 1048576 := cpt_ok h
theorem lin_in {a b n m : Int} (ha : -2097152 ≤ a) (ha' : a ≤ 2097152) (hb : -2097152 ≤ b) (hb' : b ≤ 2097152) (hn : -1073741824 ≤ n) (hn' : n ≤ 1073741824) (hm : 1 ≤ m) (hm' : m ≤ 1024) :
    -4503599627370496 ≤ a * m + b * n ∧ a * m + b * n ≤ 4503599627370496 := by
  have h1 := prod_in2 a m 2097152 1024 (by omega) (by omega) (by omega) (by omega)
  have h2 := prod_in2 b n 2097152 1073741824 (by omega) (by omega) (by omega) (by omega)
  omega
def plc (p : Pt) (n m : Int) : Int × Int := ((outQ (qv (p.a * m + p.b * n) m)).1, (outQ (qv (p.a * m + p.b * n) m)).2.1)
theorem plc_ok {p : Pt} {n m : Int} (hp : p.chk = 0) (ht : askd n m = 0) : atV p.id p.a p.b n m = ((plc p n m).1, (plc p n m).2, 0) ∧ chk (plc p n m).1 (plc p n m).2 = 0 ∧
    qv (plc p n m).1 (plc p n m).2 = qv (p.a * m + p.b * n) m ∧ 1 ≤ (plc p n m).2 ∧ (plc p n m).2 ≤ 1024 ∧ -4503599627370496 ≤ (plc p n m).1 ∧ (plc p n m).1 ≤ 4503599627370496 := by
  obtain ⟨h1, h2, h3, h4, h5⟩ := askd_ok ht
  have h6 := p.chk_ok hp
  have h7 := lin_in (a := p.a) (b := p.b) (n := n) (m := m) (by omega) (by omega) (by omega) (by omega) h2 h3 h4 h5
  obtain ⟨x, y, e1, e2, e3, e4, e5, e6⟩ := outQ_sm (n := p.a * m + p.b * n) (d := m) h4 (by omega) (by omega) (by omega)
  unfold plc atV
  rw [if_pos ⟨hp, h1⟩, e1]
  exact ⟨rfl, e2, e3, e4, by show y ≤ 1024; omega, by show _ ≤ x; omega, by show x ≤ _; omega⟩
def dst (p q : Pt) (n m : Int) : Int × Int := (((outQ (qv ((p.a - q.a) * m + (p.b - q.b) * n) m)).1.natAbs : Int), (outQ (qv ((p.a - q.a) * m + (p.b - q.b) * n) m)).2.1)
theorem dst_ok {p q : Pt} {n m : Int} (hp : p.chk = 0) (hq : q.chk = 0) (ht : askd n m = 0) : ∃ s, subV (plc p n m).1 (plc p n m).2 (plc q n m).1 (plc q n m).2 = (s, (dst p q n m).2, 0) ∧
    (s < 0 ∧ (dst p q n m).1 = -s ∨ 0 ≤ s ∧ (dst p q n m).1 = s) ∧ chk (dst p q n m).1 (dst p q n m).2 = 0 ∧ 1 ≤ (dst p q n m).2 ∧ (dst p q n m).2 ≤ 1024 ∧ 0 ≤ (dst p q n m).1 ∧ (dst p q n m).1 ≤ 4503599627370496 := by
  obtain ⟨h1, h2, h3, h4, h5⟩ := askd_ok ht
  have h6 := p.chk_ok hp
  have h6' := q.chk_ok hq
  have h7 := lin_in (a := p.a - q.a) (b := p.b - q.b) (n := n) (m := m) (by omega) (by omega) (by omega) (by omega) h2 h3 h4 h5
  obtain ⟨_, p2, p3, p4, p5, p6, p7⟩ := plc_ok hp ht
  obtain ⟨_, q2, q3, q4, q5, q6, q7⟩ := plc_ok hq ht
  obtain ⟨x, y, e1, e2, e3, e4, e5, e6⟩ := outQ_sm (n := (p.a - q.a) * m + (p.b - q.b) * n) (d := m) h4 (by omega) (by omega) (by omega)
  have hs : qv (p.a * m + p.b * n) m - qv (q.a * m + q.b * n) m = qv ((p.a - q.a) * m + (p.b - q.b) * n) m := by
    rw [qv_sub h4 h4, qv_eq (by have := Int.mul_le_mul h4 h4 (by omega) (by omega); simpa using this) h4]
    simp only [Int.sub_mul, Int.add_mul, Int.mul_assoc]
    rw [Int.mul_comm m m]
    omega
  refine ⟨x, ?_⟩
  rw [subV_q p2 q2 (by omega), p3, q3, hs]
  unfold dst
  rw [e1]
  have hc : chk (x.natAbs : Int) y = 0 := by
    obtain ⟨c1, c2, c3⟩ := (chk_iff x y).1 e2
    exact (chk_iff _ _).2 ⟨c1, by omega, by rw [Int.natAbs_natCast]; exact c3⟩
  exact ⟨rfl, by show x < 0 ∧ ((x.natAbs : Nat) : Int) = _ ∨ _ ∧ ((x.natAbs : Nat) : Int) = _; omega, hc, e4, by show y ≤ _; omega, by show 0 ≤ ((x.natAbs : Nat) : Int); omega, by show ((x.natAbs : Nat) : Int) ≤ _; omega⟩
abbrev CSt := Nat × Nat × Int × Int
def cupd (s : CSt) (a b : Nat) (d : Int × Int) : CSt := if s.2.2.2 = 0 ∨ d.1 * s.2.2.2 < s.2.2.1 * d.2 then (a, b, d.1, d.2) else s
def innerC (n m : Int) (p : Pt) (a : Nat) : List Pt → Nat → CSt → CSt
  | [], _, s => s
  | q :: r, b, s => innerC n m p a r (b + 1) (cupd s a b (dst p q n m))
def outerC (n m : Int) : List Pt → Nat → CSt → CSt
  | [], _, s => s
  | p :: r, a, s => outerC n m r (a + 1) (innerC n m p a r (a + 1) s)
theorem innerC_lt {n m : Int} {p : Pt} {a : Nat} {l : List Pt} {b : Nat} {s : CSt} (h : b < l.length) : innerC n m p a (l.drop b) b s = innerC n m p a (l.drop (b + 1)) (b + 1) (cupd s a b (dst p l[b] n m)) := by
  rw [List.drop_eq_getElem_cons h, innerC]
theorem innerC_ge {n m : Int} {p : Pt} {a : Nat} {l : List Pt} {b : Nat} {s : CSt} (h : l.length ≤ b) : innerC n m p a (l.drop b) b s = s := by
  rw [List.drop_eq_nil_of_le h, innerC]
theorem outerC_lt {n m : Int} {l : List Pt} {a : Nat} {s : CSt} (h : a < l.length) : outerC n m (l.drop a) a s = outerC n m (l.drop (a + 1)) (a + 1) (innerC n m l[a] a (l.drop (a + 1)) (a + 1) s) := by
  rw [List.drop_eq_getElem_cons h, outerC]
theorem outerC_ge {n m : Int} {l : List Pt} {a : Nat} {s : CSt} (h : l.length ≤ a) : outerC n m (l.drop a) a s = s := by
  rw [List.drop_eq_nil_of_le h, outerC]
def pairC (l : List Pt) (n m : Int) : CSt := outerC n m l 0 (0, 0, 0, 0)
theorem pairC_ref {p q : Pt} {l : List Pt} {n m : Int} (hd : (dst p q n m).2 ≠ 0) : pairC (p :: q :: l) n m = outerC n m (p :: q :: l) 0 (0, 1, (dst p q n m).1, (dst p q n m).2) := by
  have e : cupd (0, 0, 0, 0) 0 1 (dst p q n m) = cupd (0, 1, (dst p q n m).1, (dst p q n m).2) 0 1 (dst p q n m) := by
    unfold cupd
    rw [if_pos (.inl rfl), if_neg (by simp only [not_or]; exact ⟨hd, Int.lt_irrefl _⟩)]
  unfold pairC
  simp only [outerC, innerC, Nat.zero_add]
  rw [e]
def cgood (l : List Pt) (s : CSt) : Prop := chk s.2.2.1 s.2.2.2 = 0 ∧ 1 ≤ s.2.2.2 ∧ s.2.2.2 ≤ 1024 ∧ 0 ≤ s.2.2.1 ∧ s.2.2.1 ≤ 4503599627370496 ∧ s.1 < l.length ∧ s.2.1 < l.length
theorem cgood_upd {l : List Pt} {n m : Int} {s : CSt} {a b : Nat} (h : s.2.2.2 = 0 ∨ cgood l s) (hl : ∀ p ∈ l, p.chk = 0) (ht : askd n m = 0) (ha : a < l.length) (hb : b < l.length) : cgood l (cupd s a b (dst l[a] l[b] n m)) := by
  obtain ⟨x, _, _, d1, d2, d3, d4, d5⟩ := dst_ok (hl _ (List.getElem_mem ha)) (hl _ (List.getElem_mem hb)) ht
  unfold cupd
  split
  · exact ⟨d1, d2, d3, d4, d5, ha, hb⟩
  · rename_i hc
    rcases h with h | h
    · exact absurd (.inl h) hc
    · exact h
theorem cgood_inner {l : List Pt} {n m : Int} {a : Nat} (hl : ∀ p ∈ l, p.chk = 0) (ht : askd n m = 0) (ha : a < l.length) : ∀ {k b : Nat} {s : CSt}, k = l.length - b → (cgood l s ∨ s.2.2.2 = 0 ∧ b < l.length) → cgood l (innerC n m l[a] a (l.drop b) b s) := by
  intro k
  induction k with
  | zero =>
    intro b s hk h
    rw [innerC_ge (by omega)]
    rcases h with h | h
    · exact h
    · omega
  | succ k ih =>
    intro b s hk h
    rw [innerC_lt (by omega)]
    exact ih (by omega) (.inl (cgood_upd (h.elim .inr fun h => .inl h.1) hl ht ha (by omega)))
theorem cgood_outer {l : List Pt} {n m : Int} (hl : ∀ p ∈ l, p.chk = 0) (ht : askd n m = 0) : ∀ {k a : Nat} {s : CSt}, k = l.length - a → (cgood l s ∨ s.2.2.2 = 0 ∧ a + 1 < l.length) → cgood l (outerC n m (l.drop a) a s) := by
  intro k
  induction k with
  | zero =>
    intro a s hk h
    rw [outerC_ge (by omega)]
    rcases h with h | h
    · exact h
    · omega
  | succ k ih =>
    intro a s hk h
    rw [outerC_lt (by omega)]
    exact ih (by omega) (.inl (cgood_inner hl ht (by omega) rfl (h.elim .inl fun h => .inr h)))
theorem pairC_ok {l : List Pt} {n m : Int} (hl : ∀ p ∈ l, p.chk = 0) (ht : askd n m = 0) (h2 : 2 ≤ l.length) : cgood l (pairC l n m) :=
  cgood_outer (a := 0) hl ht rfl (.inr ⟨rfl, by omega⟩)
def closV (l : List Pt) (n m : Int) : Int × Int × Int × Int × Int :=
  if fchk l = 0 then (if askd n m = 0 then (if l.length < 2 then (0, 0, 0, 0, 42) else
    ((l[(pairC l n m).1]?.getD default).id, (l[(pairC l n m).2.1]?.getD default).id, (pairC l n m).2.2.1, (pairC l n m).2.2.2, 0)) else (0, 0, 0, 0, askd n m)) else (0, 0, 0, 0, fchk l)
abbrev retC (x : Int × Int × Int × Int × Int) : DV := .tup [.one (i64 x.1), .one (i64 x.2.1), .agg [i64 x.2.2.1, i64 x.2.2.2.1], .one (i64 x.2.2.2.2)]
end Go.Proofs.YtnjgfhgpicmklaaGreat

namespace Go.Proofs.YtnjgfhgpicmklaaGreat
open Go.RowKit Go.Sort Sx
theorem rsub_fn (p q r t : Int) : FnOK Tryz.prog 190 (rat2 p q r t) (ret3 (subV p q r t)) := by
  refine fn_of_calls (fun _ _ => Tryz.call190 _ _) rfl rfl (fun h => ?_) (fun h w => ?_)
  · simp only [WDV, WDCs, WDC, WDs, wd_i64, and_true]
    have := subV_rng p q r t
    omega
  · obtain ⟨⟨_, _, _, _⟩, _, _, _, _⟩ := wd2 h
    exact rsub_any p q r t w (by omega) (by omega) (by omega) (by omega) (by omega) (by omega) (by omega) (by omega)
theorem rat_eq {a b c d : Int} (h1 : a = c) (h2 : b = d) : DV.c (.agg [i64 a, i64 b]) = .c (rat c d) := by rw [h1, h2]
theorem roPlace_fn {p : Pt} {n m : Int} (hp : p.chk = 0) (ht : askd n m = 0) : FnOK Tryz.prog 104 [p.dc, rat n m] (.c (rat (plc p n m).1 (plc p n m).2)) := by
  refine fn_ok (by kernel_rfl) ty_ok Tryz.func104 rfl (fun _ _ => Tryz.call104 _ _) rfl ?_
  intro hw
  clear hw
  have H := kkAt_fn p.id p.a p.b n m
  rw [(plc_ok hp ht).1] at H
  exact zw
theorem roDistance_fn {p q : Pt} {n m : Int} (hp : p.chk = 0) (hq : q.chk = 0) (ht : askd n m = 0) : FnOK Tryz.prog 146 [p.dc, q.dc, rat n m] (.c (rat (dst p q n m).1 (dst p q n m).2)) := by
  refine fn_ok (by kernel_rfl) ty_ok Tryz.func146 rfl (fun _ _ => Tryz.call146 _ _) rfl ?_
  intro hw
  clear hw
  have H1 := roPlace_fn hp ht
  have H2 := roPlace_fn hq ht
  obtain ⟨s, e1, e2, e3, e4, e5, e6, e7⟩ := dst_ok hp hq ht
  have H3 := rsub_fn (plc p n m).1 (plc p n m).2 (plc q n m).1 (plc q n m).2
  rw [e1] at H3
  simp only [ret3] at H3
  clear e1
  generalize (dst p q n m).1 = x at *
  generalize (dst p q n m).2 = y at *
  rcases e2 with ⟨e2, e8⟩ | ⟨e2, e8⟩
  all_goals
    repeat' ((conv => whnf); first | (with_reducible first | refine br_t ?_ | refine br_f ?_ | refine za ?_ | refine zg ?_) | refine zp ?_ | refine zq ?_ | (with_reducible first | refine bc (fun h => ?_) (fun h => ?_) | refine zt ?_ | refine zf ?_ | refine br_i (fun h => ?_) (fun h => ?_)) | refine zg ?_ | refine zi ?_ | refine zb ?_)
    all_goals conv => whnf
    all_goals
      refine rat_eq ?_ rfl
      (first | omega | (rw [IntWalk.i64_in _ (by omega)]; omega) | (simp; done))
set_option maxHeartbeats 2000000 in
theorem roPair_fn {l : List Pt} {n m : Int} (hl : ∀ p ∈ l, p.chk = 0) (ht : askd n m = 0) (h2 : 2 ≤ l.length) (h3 : l.length ≤ 1000000) :
    FnOK Tryz.prog 105 [fld l, rat n m] (.tup [.one (i64 (l[(pairC l n m).1]?.getD default).id), .one (i64 (l[(pairC l n m).2.1]?.getD default).id), rat (pairC l n m).2.2.1 (pairC l n m).2.2.2]) := by
  refine fn_ok (by kernel_rfl) ty_ok Tryz.func105 rfl (fun _ _ => Tryz.call105 _ _) rfl ?_
  intro hw
  clear hw
  have hel0 := pts_get (l := l) (i := 0) (by omega)
  have hel1 := pts_get (l := l) (i := 1) (by omega)
  have H1 := roDistance_fn (hl _ (List.getElem_mem (show 0 < l.length by omega))) (hl _ (List.getElem_mem (show 1 < l.length by omega))) ht
  obtain ⟨_, _, _, d1, d2, d3, d4, d5⟩ := dst_ok (hl _ (List.getElem_mem (show 0 < l.length by omega))) (hl _ (List.getElem_mem (show 1 < l.length by omega))) ht
  have hP : pairC l n m = outerC n m l 0 (0, 1, (dst l[0] l[1] n m).1, (dst l[0] l[1] n m).2) := by
    rcases l with _ | ⟨p, _ | ⟨q, l⟩⟩
    · simp at h2
    · simp at h2
    · exact pairC_ref (by show (dst p q n m).2 ≠ 0; have : 1 ≤ (dst p q n m).2 := d2; omega)
  repeat' ((conv => whnf); first | (with_reducible first | refine br_t ?_ | refine br_f ?_ | refine za ?_ | refine zg ?_) | rw [List.length_map] | refine zp ?_ | refine zq ?_ | (with_reducible first | refine bc (fun h => ?_) (fun h => ?_) | refine zt ?_ | refine zf ?_ | refine br_i (fun h => ?_) (fun h => ?_)) | refine zg ?_ | refine zi ?_ | refine zb ?_)
  clear H1 hel0 hel1
  have hP2 := pairC_ok hl ht h2
  refine loop_J (by kernel_rfl) ty_ok (σ := Nat × CSt) (fun x => [(10, sV (.int .i64 x.1)), (7, sV (.int .i64 x.2.1)), (8, sV (.int .i64 x.2.2.1))]) (fun x => [(9, .own [.d (i64 x.2.2.2.1), .d (i64 x.2.2.2.2)])])
    (fun x => x.1 ≤ l.length ∧ cgood l x.2 ∧ outerC n m (l.drop x.1) x.1 x.2 = pairC l n m) (fun x => l.length - x.1) (0, 0, 1, (dst l[0] l[1] n m).1, (dst l[0] l[1] n m).2)
    ⟨by omega, ⟨d1, d2, d3, d4, d5, by show 0 < l.length; omega, by show 1 < l.length; omega⟩, hP.symm⟩ ?_ ?_
  · (conv => whnf); exact zent
  rintro ⟨a, s⟩ ⟨k1, k2, k3⟩
  simp only at k1 k2 k3
  rcases Nat.lt_or_ge a l.length with hlt | hge
  · rw [outerC_lt hlt] at k3
    repeat' ((conv => whnf); first | (with_reducible first | refine br_t ?_ | refine br_f ?_ | refine za ?_ | refine zg ?_) | rw [List.length_map] | refine zp ?_ | refine zq ?_ | (with_reducible first | refine bc (fun h => ?_) (fun h => ?_) | refine zt ?_ | refine zf ?_ | refine br_i (fun h => ?_) (fun h => ?_)) | refine zg ?_ | refine zi ?_ | refine zb ?_)
    refine loop_J (by kernel_rfl) ty_ok (σ := Nat × CSt) (fun x => [(11, sV (.int .i64 x.1)), (7, sV (.int .i64 x.2.1)), (8, sV (.int .i64 x.2.2.1))]) (fun x => [(9, .own [.d (i64 x.2.2.2.1), .d (i64 x.2.2.2.2)])])
      (fun x => x.1 ≤ l.length ∧ cgood l x.2 ∧ innerC n m l[a] a (l.drop x.1) x.1 x.2 = innerC n m l[a] a (l.drop (a + 1)) (a + 1) s) (fun x => l.length - x.1) (a + 1, s) ⟨by show _ ≤ _; omega, k2, rfl⟩ ?_ ?_
    · (conv => whnf); exact zent
    rintro ⟨b, t⟩ ⟨g1, g2, g3⟩
    simp only at g1 g2 g3
    rcases Nat.lt_or_ge b l.length with hblt | hbge
    · have hela := pts_get hlt
      have helb := pts_get hblt
      have H1 := roDistance_fn (hl _ (List.getElem_mem hlt)) (hl _ (List.getElem_mem hblt)) ht
      have g4 := cgood_upd (.inr g2) hl ht hlt hblt
      rw [innerC_lt hblt] at g3
      obtain ⟨c1, c2, c3, c4, c5, c6, c7⟩ := g2
      have H2 := rcompare_fn (dst l[a] l[b] n m).1 (dst l[a] l[b] n m).2 t.2.2.1 t.2.2.2
      obtain ⟨_, _, _, d1, d2, d3, d4, d5⟩ := dst_ok (hl _ (List.getElem_mem hlt)) (hl _ (List.getElem_mem hblt)) ht
      by_cases hc : (dst l[a] l[b] n m).1 * t.2.2.2 < t.2.2.1 * (dst l[a] l[b] n m).2
      · have e : cupd t a b (dst l[a] l[b] n m) = (a, b, (dst l[a] l[b] n m).1, (dst l[a] l[b] n m).2) := if_pos (.inr hc)
        have e2 : cmpN ((dst l[a] l[b] n m).1 * t.2.2.2) (t.2.2.1 * (dst l[a] l[b] n m).2) = -1 := if_pos hc
        rw [e] at g3 g4
        rw [e2] at H2
        repeat' ((conv => whnf); first | (with_reducible first | refine br_t ?_ | refine br_f ?_ | refine za ?_ | refine zg ?_) | rw [List.length_map] | refine zp ?_ | refine zq ?_ | (with_reducible first | refine bc (fun h => ?_) (fun h => ?_) | refine zt ?_ | refine zf ?_ | refine br_i (fun h => ?_) (fun h => ?_)) | refine zg ?_ | refine zi ?_ | refine zb ?_)
        all_goals conv => whnf
        refine ⟨(b + 1, a, b, (dst l[a] l[b] n m).1, (dst l[a] l[b] n m).2), ⟨by show _ ≤ _; omega, g4, g3⟩, ?_, by show _ - _ < _ - _; omega⟩
        (conv => whnf); exact zent
      · have e : cupd t a b (dst l[a] l[b] n m) = t := if_neg (by omega)
        have e2 : 0 ≤ cmpN ((dst l[a] l[b] n m).1 * t.2.2.2) (t.2.2.1 * (dst l[a] l[b] n m).2) := by unfold cmpN; rw [if_neg hc]; split <;> omega
        rw [e] at g3
        generalize cmpN ((dst l[a] l[b] n m).1 * t.2.2.2) (t.2.2.1 * (dst l[a] l[b] n m).2) = z at H2 e2
        repeat' ((conv => whnf); first | (with_reducible first | refine br_t ?_ | refine br_f ?_ | refine za ?_ | refine zg ?_) | rw [List.length_map] | refine zp ?_ | refine zq ?_ | (with_reducible first | refine bc (fun h => ?_) (fun h => ?_) | refine zt ?_ | refine zf ?_ | refine br_i (fun h => ?_) (fun h => ?_)) | refine zg ?_ | refine zi ?_ | refine zb ?_)
        all_goals conv => whnf
        refine ⟨(b + 1, t), ⟨by show _ ≤ _; omega, ⟨c1, c2, c3, c4, c5, c6, c7⟩, g3⟩, ?_, by show _ - _ < _ - _; omega⟩
        (conv => whnf); exact zent
    · rw [innerC_ge hbge] at g3
      rw [← g3] at k3
      repeat' ((conv => whnf); first | (with_reducible first | refine br_t ?_ | refine br_f ?_ | refine za ?_ | refine zg ?_) | rw [List.length_map] | refine zp ?_ | refine zq ?_ | (with_reducible first | refine bc (fun h => ?_) (fun h => ?_) | refine zt ?_ | refine zf ?_ | refine br_i (fun h => ?_) (fun h => ?_)) | refine zg ?_ | refine zi ?_ | refine zb ?_)
      all_goals conv => whnf
      refine ⟨(a + 1, t), ⟨by show _ ≤ _; omega, g2, k3⟩, ?_, by show _ - _ < _ - _; omega⟩
      (conv => whnf); exact zent
  · rw [outerC_ge hge] at k3
    rw [← k3]
    obtain ⟨c1, c2, c3, c4, c5, c6, c7⟩ := k2
    have hela := pts_get c6
    have helb := pts_get c7
    rw [List.getElem?_eq_getElem c6, List.getElem?_eq_getElem c7]
    repeat' ((conv => whnf); first | (with_reducible first | refine br_t ?_ | refine br_f ?_ | refine za ?_ | refine zg ?_) | rw [List.length_map] | refine zp ?_ | refine zq ?_ | (with_reducible first | refine bc (fun h => ?_) (fun h => ?_) | refine zt ?_ | refine zf ?_ | refine br_i (fun h => ?_) (fun h => ?_)) | refine zg ?_ | refine zi ?_ | refine zb ?_)
    all_goals conv => whnf
    all_goals rfl
end Go.Proofs.YtnjgfhgpicmklaaGreat

namespace Go.Proofs.YtnjgfhgpicmklaaGreat
open Go.RowKit Go.Sort Sx
def plcs (l : List Pt) (n m : Int) (i : Nat) : List (List D) := (l.take i).map (fun p => [i64 (plc p n m).1, i64 (plc p n m).2]) ++ List.replicate (l.length - i) [i64 0, i64 0]
theorem plcs_len {l : List Pt} {n m : Int} {i : Nat} : i ≤ l.length → (plcs l n m i).length = l.length := by
  intro h
  simp [plcs]; omega
theorem plcs_get0 {l : List Pt} {n m : Int} {i : Nat} (h : i < l.length) : (plcs l n m i)[((i : Nat) : Int).toNat]? = some [i64 0, i64 0] := by
  rw [Int.toNat_natCast, plcs, List.getElem?_append_right (by simp; omega)]
  rw [List.getElem?_replicate, if_pos (by simp; omega)]
theorem plcs_set {l : List Pt} {n m : Int} {i : Nat} (h : i < l.length) : (plcs l n m i).set ((i : Nat) : Int).toNat [i64 (plc l[i] n m).1, i64 (plc l[i] n m).2] = plcs l n m (i + 1) := by
  rw [Int.toNat_natCast]
  unfold plcs
  have hk : l.length - i = (l.length - (i + 1)) + 1 := by omega
  rw [List.take_succ_eq_append_getElem h, hk, List.replicate_succ, List.set_append_right _ _ (by simp; omega)]
  have h0 : i - ((l.take i).map fun p : Pt => [i64 (plc p n m).1, i64 (plc p n m).2]).length = 0 := by simp; omega
  rw [h0, List.map_append, List.append_assoc]
  rfl
theorem plcs_all (l : List Pt) (n m : Int) : plcs l n m l.length = l.map fun p => [i64 (plc p n m).1, i64 (plc p n m).2] := by
  simp [plcs]
theorem plcs_get {l : List Pt} {n m : Int} {i : Nat} (h : i < l.length) : (plcs l n m l.length)[((i : Nat) : Int).toNat]? = some [i64 (plc l[i] n m).1, i64 (plc l[i] n m).2] := by
  rw [plcs_all, Int.toNat_natCast, List.getElem?_map, List.getElem?_eq_getElem h]; rfl
def cst (l : List Pt) (s : CSt) (x y : Int) : Prop := (s.2.2.2 = 0 ∧ s.2.2.1 = 0 ∧ x = 0 ∧ y = 0) ∨ cgood l s ∧ ∃ (h1 : s.1 < l.length) (h2 : s.2.1 < l.length), x = l[s.1].id ∧ y = l[s.2.1].id
set_option maxHeartbeats 4000000 in
set_option maxRecDepth 100000 in
theorem oClosest_fn (l : List Pt) (n m : Int) : FnOK Tryz.prog 89 [fld l, rat n m] (retC (closV l n m)) := by
  refine fn_ok (by kernel_rfl) (ty_okK [40] [] [] []) Tryz.func89 rfl (fun _ _ => Tryz.call89 _ _) rfl ?_
  intro hw
  clear hw
  have H1 := fCheck_fn l
  have H2 := asked_fn n m
  have H3 := ofirst_fn (fchk l) (askd n m)
  unfold closV
  by_cases h0 : fchk l = 0
  · obtain ⟨k1, k2, k3⟩ := fchk_ok h0
    rw [if_pos h0]
    by_cases h1 : askd n m = 0
    · rw [if_pos h1]
      rw [h0, h1] at H3
      rw [h0] at H1
      rw [h1] at H2
      change FnOK _ _ _ (ret1 0) at H3
      by_cases h2 : l.length < 2
      · rw [if_pos h2]
        repeat' ((conv => whnf); first | (with_reducible first | refine br_t ?_ | refine br_f ?_ | refine za ?_ | refine zg ?_ | refine zo ?_) | rw [List.length_map] | refine zp ?_ | refine zq ?_ | (with_reducible first | refine bc (fun h => ?_) (fun h => ?_) | refine zt ?_ | refine zf ?_ | refine br_i (fun h => ?_) (fun h => ?_) | refine xi (pv_bool fun _ => nev23 _ _ _ _ _ _ _) ?_) | refine zg ?_ | refine zi ?_ | refine zb ?_ | refine zl ?_)
        all_goals conv => whnf
        all_goals rfl
      · rw [if_neg h2]
        repeat' ((conv => whnf); first | (with_reducible first | refine br_t ?_ | refine br_f ?_ | refine za ?_ | refine zg ?_ | refine zo ?_) | rw [List.length_map] | refine zp ?_ | refine zq ?_ | (with_reducible first | refine bc (fun h => ?_) (fun h => ?_) | refine zt ?_ | refine zf ?_ | refine br_i (fun h => ?_) (fun h => ?_) | refine xi (pv_bool fun _ => nev23 _ _ _ _ _ _ _) ?_) | refine zg ?_ | refine zi ?_ | refine zb ?_ | refine zl ?_)
        all_goals conv => whnf
        refine loop_frz [40] ?_
        refine loop_J (by kernel_rfl) (ty_okK [40] [] [] []) (σ := Nat) (fun i => [(44, sV (.int .i64 i))]) (fun i => [(40, .row 2 (plcs l n m i) 0)]) (fun i => i ≤ l.length) (fun i => l.length - i) 0 (Nat.zero_le _) ?_ ?_
        · (conv => whnf); exact zent
        intro i hi
        have hln := plcs_len (n := n) (m := m) hi
        rcases Nat.lt_or_ge i l.length with hlt | hge
        · have hel := pts_get hlt
          have hel2 := plcs_get0 (n := n) (m := m) hlt
          have H4 := kAt_fn l[i].id l[i].a l[i].b n m
          rw [(plc_ok (k2 _ (List.getElem_mem hlt)) h1).1] at H4
          simp only [ret3] at H4
          repeat' ((conv => whnf); first | (with_reducible first | refine br_t ?_ | refine br_f ?_ | refine za ?_ | refine zg ?_ | refine zo ?_) | rw [List.length_map] | refine zp ?_ | refine zq ?_ | (with_reducible first | refine bc (fun h => ?_) (fun h => ?_) | refine zt ?_ | refine zf ?_ | refine br_i (fun h => ?_) (fun h => ?_) | refine xi (pv_bool fun _ => nev23 _ _ _ _ _ _ _) ?_) | refine zg ?_ | refine zi ?_ | refine zb ?_ | refine zl ?_)
          all_goals conv => whnf
          refine ⟨i + 1, by omega, ?_, by omega⟩
          (conv => whnf); refine ⟨by repeat' (first | with_reducible exact zE0 | with_reducible refine zE1 ?_ ?_ | rfl | assumption | (exact congrArg (fun x => some (Blk.row 2 x 0)) (plcs_set hlt)) | exact zi1 | exact zb1), by repeat' (first | with_reducible exact zH0 | with_reducible refine zH1 ?_ ?_ | rfl | assumption | (exact congrArg (fun x => some (Blk.row 2 x 0)) (plcs_set hlt))), rfl⟩
        obtain rfl : i = l.length := by omega
        repeat' ((conv => whnf); first | (with_reducible first | refine br_t ?_ | refine br_f ?_ | refine za ?_ | refine zg ?_ | refine zo ?_) | rw [List.length_map] | refine zp ?_ | refine zq ?_ | (with_reducible first | refine bc (fun h => ?_) (fun h => ?_) | refine zt ?_ | refine zf ?_ | refine br_i (fun h => ?_) (fun h => ?_) | refine xi (pv_bool fun _ => nev23 _ _ _ _ _ _ _) ?_) | refine zg ?_ | refine zi ?_ | refine zb ?_ | refine zl ?_)
        conv => whnf
        refine loop_J (by kernel_rfl) (ty_okK [40] [] [] []) (σ := Nat × CSt × Int × Int) (fun z => [(66, sV (.int .i64 z.1)), (14, sV (.int .i64 z.2.2.1)), (15, sV (.int .i64 z.2.2.2))]) (fun z => [(16, .own [.d (i64 z.2.1.2.2.1), .d (i64 z.2.1.2.2.2)])])
          (fun z => z.1 ≤ l.length ∧ cst l z.2.1 z.2.2.1 z.2.2.2 ∧ outerC n m (l.drop z.1) z.1 z.2.1 = pairC l n m) (fun z => l.length - z.1) (0, (0, 0, 0, 0), 0, 0) ⟨by omega, .inl ⟨rfl, rfl, rfl, rfl⟩, rfl⟩ ?_ ?_
        · (conv => whnf); exact zent
        rintro ⟨a, s, x, y⟩ ⟨g1, g2, g3⟩
        simp only at g1 g2 g3
        rcases Nat.lt_or_ge a l.length with hlt | hge
        · rw [outerC_lt hlt] at g3
          repeat' ((conv => whnf); first | (with_reducible first | refine br_t ?_ | refine br_f ?_ | refine za ?_ | refine zg ?_ | refine zo ?_) | rw [List.length_map] | refine zp ?_ | refine zq ?_ | (with_reducible first | refine bc (fun h => ?_) (fun h => ?_) | refine zt ?_ | refine zf ?_ | refine br_i (fun h => ?_) (fun h => ?_) | refine xi (pv_bool fun _ => nev23 _ _ _ _ _ _ _) ?_) | refine zg ?_ | refine zi ?_ | refine zb ?_ | refine zl ?_)
          conv => whnf
          refine loop_J (by kernel_rfl) (ty_okK [40] [] [] []) (σ := Nat × CSt × Int × Int) (fun z => [(18, sV (.int .i64 z.1)), (14, sV (.int .i64 z.2.2.1)), (15, sV (.int .i64 z.2.2.2))]) (fun z => [(16, .own [.d (i64 z.2.1.2.2.1), .d (i64 z.2.1.2.2.2)])])
            (fun z => z.1 ≤ l.length ∧ cst l z.2.1 z.2.2.1 z.2.2.2 ∧ innerC n m l[a] a (l.drop z.1) z.1 z.2.1 = innerC n m l[a] a (l.drop (a + 1)) (a + 1) s) (fun z => l.length - z.1) (a + 1, s, x, y) ⟨by show _ ≤ _; omega, g2, rfl⟩ ?_ ?_
          · (conv => whnf); exact zent
          rintro ⟨b, t, u, v⟩ ⟨f1, f2, f3⟩
          simp only at f1 f2 f3
          rcases Nat.lt_or_ge b l.length with hblt | hbge
          · have hela := plcs_get (n := n) (m := m) hlt
            have helb := plcs_get (n := n) (m := m) hblt
            have hida := pts_get hlt
            have hidb := pts_get hblt
            rw [innerC_lt hblt] at f3
            obtain ⟨c, e1, e2, d1, d2, d3, d4, d5⟩ := dst_ok (k2 _ (List.getElem_mem hlt)) (k2 _ (List.getElem_mem hblt)) h1
            have H4 := sub_fn (plc l[a] n m).1 (plc l[a] n m).2 (plc l[b] n m).1 (plc l[b] n m).2
            rw [e1] at H4
            simp only [ret3] at H4
            have hgd := fun h => cgood_upd (n := n) (m := m) (s := t) (a := a) (b := b) h k2 h1 hlt hblt
            have key : ∀ z w : Int, z = (dst l[a] l[b] n m).1 → w = (dst l[a] l[b] n m).2 → cgood l t → FnOK Tryz.prog 84 (rat2 z w t.2.2.1 t.2.2.2) (.tup [.one (i64 (cmpN ((dst l[a] l[b] n m).1 * t.2.2.2) (t.2.2.1 * (dst l[a] l[b] n m).2))), .one (i64 0)]) := by
              rintro z w rfl rfl ht
              have := cmp_fn (dst l[a] l[b] n m).1 (dst l[a] l[b] n m).2 t.2.2.1 t.2.2.2
              unfold cmpV bth at this
              rw [if_pos (by rw [d1, ht.1]; decide)] at this
              exact this
            generalize hx : (dst l[a] l[b] n m).1 = X at *
            generalize hy : (dst l[a] l[b] n m).2 = Y at *
            rcases e2 with ⟨e2, e3⟩ | ⟨e2, e3⟩
            · have hwr : IntKind.i64.wrap (0 - c) = X := by rw [IntWalk.i64_in _ (by omega)]; omega
              have key2 := key (IntKind.i64.wrap (0 - c)) Y hwr rfl
              rcases f2 with ⟨m1, m2, rfl, rfl⟩ | ⟨m1, m3, m4, rfl, rfl⟩
              · have ec : cupd t a b (dst l[a] l[b] n m) = (a, b, X, Y) := by unfold cupd; rw [if_pos (.inl m1), hx, hy]
                have hg := hgd (.inl m1)
                rw [ec] at f3 hg
                simp only [m1, m2] at *
                repeat' ((conv => whnf); first | (with_reducible first | refine br_t ?_ | refine br_f ?_ | refine za ?_ | refine zg ?_ | refine zo ?_) | rw [List.length_map] | refine zp ?_ | refine zq ?_ | (with_reducible first | refine bc (fun h => ?_) (fun h => ?_) | refine zt ?_ | refine zf ?_ | refine br_i (fun h => ?_) (fun h => ?_) | refine xi (pv_bool fun _ => nev23 _ _ _ _ _ _ _) ?_) | refine zg ?_ | refine zi ?_ | refine zb ?_ | refine zl ?_)
                all_goals conv => whnf
                refine ⟨(b + 1, (a, b, X, Y), l[a].id, l[b].id), ⟨by show _ ≤ _; omega, .inr ⟨hg, hlt, hblt, rfl, rfl⟩, f3⟩, ?_, by show _ - _ < _ - _; omega⟩
                (conv => whnf); refine ⟨by repeat' (first | with_reducible exact zE0 | with_reducible refine zE1 ?_ ?_ | rfl | assumption | (exact congrArg (fun z => some (Blk.own [.d (i64 z), .d (i64 Y)])) hwr) | exact zi1 | exact zb1), by repeat' (first | with_reducible exact zH0 | with_reducible refine zH1 ?_ ?_ | rfl | assumption | (exact congrArg (fun z => some (Blk.own [.d (i64 z), .d (i64 Y)])) hwr)), rfl⟩
              · replace key2 := key2 m1
                have hg := hgd (.inr m1)
                have n1 := m1.2.1
                have n2 := m1.2.2.2.1
                clear key
                by_cases hc : X * t.2.2.2 < t.2.2.1 * Y
                · have ec : cupd t a b (dst l[a] l[b] n m) = (a, b, X, Y) := by unfold cupd; rw [hx, hy, if_pos (.inr hc)]
                  rw [ec] at f3 hg
                  have e9 : cmpN (X * t.2.2.2) (t.2.2.1 * Y) = -1 := if_pos hc
                  rw [e9] at key2
                  clear hc e9
                  repeat' ((conv => whnf); first | (with_reducible first | refine br_t ?_ | refine br_f ?_ | refine za ?_ | refine zg ?_ | refine zo ?_) | rw [List.length_map] | refine zp ?_ | refine zq ?_ | (with_reducible first | refine bc (fun h => ?_) (fun h => ?_) | refine zt ?_ | refine zf ?_ | refine br_i (fun h => ?_) (fun h => ?_) | refine xi (pv_bool fun _ => nev23 _ _ _ _ _ _ _) ?_) | refine zg ?_ | refine zi ?_ | refine zb ?_ | refine zl ?_)
                  all_goals conv => whnf
                  refine ⟨(b + 1, (a, b, X, Y), l[a].id, l[b].id), ⟨by show _ ≤ _; omega, .inr ⟨hg, hlt, hblt, rfl, rfl⟩, f3⟩, ?_, by show _ - _ < _ - _; omega⟩
                  (conv => whnf); refine ⟨by repeat' (first | with_reducible exact zE0 | with_reducible refine zE1 ?_ ?_ | rfl | assumption | (exact congrArg (fun z => some (Blk.own [.d (i64 z), .d (i64 Y)])) hwr) | exact zi1 | exact zb1), by repeat' (first | with_reducible exact zH0 | with_reducible refine zH1 ?_ ?_ | rfl | assumption | (exact congrArg (fun z => some (Blk.own [.d (i64 z), .d (i64 Y)])) hwr)), rfl⟩
                  · exfalso; simp only at h; omega
                · have ec : cupd t a b (dst l[a] l[b] n m) = t := by unfold cupd; rw [hx, hy, if_neg (by omega)]
                  rw [ec] at f3
                  have e9 : 0 ≤ cmpN (X * t.2.2.2) (t.2.2.1 * Y) := by unfold cmpN; rw [if_neg hc]; split <;> omega
                  generalize cmpN (X * t.2.2.2) (t.2.2.1 * Y) = cc at key2 e9
                  clear hc
                  repeat' ((conv => whnf); first | (with_reducible first | refine br_t ?_ | refine br_f ?_ | refine za ?_ | refine zg ?_ | refine zo ?_) | rw [List.length_map] | refine zp ?_ | refine zq ?_ | (with_reducible first | refine bc (fun h => ?_) (fun h => ?_) | refine zt ?_ | refine zf ?_ | refine br_i (fun h => ?_) (fun h => ?_) | refine xi (pv_bool fun _ => nev23 _ _ _ _ _ _ _) ?_) | refine zg ?_ | refine zi ?_ | refine zb ?_ | refine zl ?_)
                  all_goals conv => whnf
                  refine ⟨(b + 1, t, l[t.1].id, l[t.2.1].id), ⟨by show _ ≤ _; omega, .inr ⟨m1, m3, m4, rfl, rfl⟩, f3⟩, ?_, by show _ - _ < _ - _; omega⟩
                  (conv => whnf); exact zent
                  · exfalso; simp only at h; omega
            · have hwr : c = X := by omega
              have key2 := key c Y hwr rfl
              rcases f2 with ⟨m1, m2, rfl, rfl⟩ | ⟨m1, m3, m4, rfl, rfl⟩
              · have ec : cupd t a b (dst l[a] l[b] n m) = (a, b, X, Y) := by unfold cupd; rw [if_pos (.inl m1), hx, hy]
                have hg := hgd (.inl m1)
                rw [ec] at f3 hg
                simp only [m1, m2] at *
                repeat' ((conv => whnf); first | (with_reducible first | refine br_t ?_ | refine br_f ?_ | refine za ?_ | refine zg ?_ | refine zo ?_) | rw [List.length_map] | refine zp ?_ | refine zq ?_ | (with_reducible first | refine bc (fun h => ?_) (fun h => ?_) | refine zt ?_ | refine zf ?_ | refine br_i (fun h => ?_) (fun h => ?_) | refine xi (pv_bool fun _ => nev23 _ _ _ _ _ _ _) ?_) | refine zg ?_ | refine zi ?_ | refine zb ?_ | refine zl ?_)
                all_goals conv => whnf
                refine ⟨(b + 1, (a, b, X, Y), l[a].id, l[b].id), ⟨by show _ ≤ _; omega, .inr ⟨hg, hlt, hblt, rfl, rfl⟩, f3⟩, ?_, by show _ - _ < _ - _; omega⟩
                (conv => whnf); refine ⟨by repeat' (first | with_reducible exact zE0 | with_reducible refine zE1 ?_ ?_ | rfl | assumption | (exact congrArg (fun z => some (Blk.own [.d (i64 z), .d (i64 Y)])) hwr) | exact zi1 | exact zb1), by repeat' (first | with_reducible exact zH0 | with_reducible refine zH1 ?_ ?_ | rfl | assumption | (exact congrArg (fun z => some (Blk.own [.d (i64 z), .d (i64 Y)])) hwr)), rfl⟩
              · replace key2 := key2 m1
                have hg := hgd (.inr m1)
                have n1 := m1.2.1
                have n2 := m1.2.2.2.1
                clear key
                by_cases hc : X * t.2.2.2 < t.2.2.1 * Y
                · have ec : cupd t a b (dst l[a] l[b] n m) = (a, b, X, Y) := by unfold cupd; rw [hx, hy, if_pos (.inr hc)]
                  rw [ec] at f3 hg
                  have e9 : cmpN (X * t.2.2.2) (t.2.2.1 * Y) = -1 := if_pos hc
                  rw [e9] at key2
                  clear hc e9
                  repeat' ((conv => whnf); first | (with_reducible first | refine br_t ?_ | refine br_f ?_ | refine za ?_ | refine zg ?_ | refine zo ?_) | rw [List.length_map] | refine zp ?_ | refine zq ?_ | (with_reducible first | refine bc (fun h => ?_) (fun h => ?_) | refine zt ?_ | refine zf ?_ | refine br_i (fun h => ?_) (fun h => ?_) | refine xi (pv_bool fun _ => nev23 _ _ _ _ _ _ _) ?_) | refine zg ?_ | refine zi ?_ | refine zb ?_ | refine zl ?_)
                  all_goals conv => whnf
                  refine ⟨(b + 1, (a, b, X, Y), l[a].id, l[b].id), ⟨by show _ ≤ _; omega, .inr ⟨hg, hlt, hblt, rfl, rfl⟩, f3⟩, ?_, by show _ - _ < _ - _; omega⟩
                  (conv => whnf); refine ⟨by repeat' (first | with_reducible exact zE0 | with_reducible refine zE1 ?_ ?_ | rfl | assumption | (exact congrArg (fun z => some (Blk.own [.d (i64 z), .d (i64 Y)])) hwr) | exact zi1 | exact zb1), by repeat' (first | with_reducible exact zH0 | with_reducible refine zH1 ?_ ?_ | rfl | assumption | (exact congrArg (fun z => some (Blk.own [.d (i64 z), .d (i64 Y)])) hwr)), rfl⟩
                  · exfalso; simp only at h; omega
                · have ec : cupd t a b (dst l[a] l[b] n m) = t := by unfold cupd; rw [hx, hy, if_neg (by omega)]
                  rw [ec] at f3
                  have e9 : 0 ≤ cmpN (X * t.2.2.2) (t.2.2.1 * Y) := by unfold cmpN; rw [if_neg hc]; split <;> omega
                  generalize cmpN (X * t.2.2.2) (t.2.2.1 * Y) = cc at key2 e9
                  clear hc
                  repeat' ((conv => whnf); first | (with_reducible first | refine br_t ?_ | refine br_f ?_ | refine za ?_ | refine zg ?_ | refine zo ?_) | rw [List.length_map] | refine zp ?_ | refine zq ?_ | (with_reducible first | refine bc (fun h => ?_) (fun h => ?_) | refine zt ?_ | refine zf ?_ | refine br_i (fun h => ?_) (fun h => ?_) | refine xi (pv_bool fun _ => nev23 _ _ _ _ _ _ _) ?_) | refine zg ?_ | refine zi ?_ | refine zb ?_ | refine zl ?_)
                  all_goals conv => whnf
                  refine ⟨(b + 1, t, l[t.1].id, l[t.2.1].id), ⟨by show _ ≤ _; omega, .inr ⟨m1, m3, m4, rfl, rfl⟩, f3⟩, ?_, by show _ - _ < _ - _; omega⟩
                  (conv => whnf); exact zent
                  · exfalso; simp only at h; omega
          · rw [innerC_ge hbge] at f3
            rw [← f3] at g3
            repeat' ((conv => whnf); first | (with_reducible first | refine br_t ?_ | refine br_f ?_ | refine za ?_ | refine zg ?_ | refine zo ?_) | rw [List.length_map] | refine zp ?_ | refine zq ?_ | (with_reducible first | refine bc (fun h => ?_) (fun h => ?_) | refine zt ?_ | refine zf ?_ | refine br_i (fun h => ?_) (fun h => ?_) | refine xi (pv_bool fun _ => nev23 _ _ _ _ _ _ _) ?_) | refine zg ?_ | refine zi ?_ | refine zb ?_ | refine zl ?_)
            all_goals conv => whnf
            refine ⟨(a + 1, t, u, v), ⟨by show _ ≤ _; omega, f2, g3⟩, ?_, by show _ - _ < _ - _; omega⟩
            (conv => whnf); exact zent
        · rw [outerC_ge hge] at g3
          rw [← g3]
          rcases g2 with g2 | ⟨g2, g4, g5, rfl, rfl⟩
          · exfalso
            have := pairC_ok k2 h1 (by omega)
            rw [← g3] at this
            obtain ⟨_, _, _⟩ := this
            omega
          rw [List.getElem?_eq_getElem g4, List.getElem?_eq_getElem g5]
          repeat' ((conv => whnf); first | (with_reducible first | refine br_t ?_ | refine br_f ?_ | refine za ?_ | refine zg ?_ | refine zo ?_) | rw [List.length_map] | refine zp ?_ | refine zq ?_ | (with_reducible first | refine bc (fun h => ?_) (fun h => ?_) | refine zt ?_ | refine zf ?_ | refine br_i (fun h => ?_) (fun h => ?_) | refine xi (pv_bool fun _ => nev23 _ _ _ _ _ _ _) ?_) | refine zg ?_ | refine zi ?_ | refine zb ?_ | refine zl ?_)
          all_goals conv => whnf
          all_goals rfl
    · rw [if_neg h1]
      rw [h0] at H3 H1
      change FnOK _ _ _ (ret1 (askd n m)) at H3
      generalize askd n m = z at *
      repeat' ((conv => whnf); first | (with_reducible first | refine br_t ?_ | refine br_f ?_ | refine za ?_ | refine zg ?_ | refine zo ?_) | rw [List.length_map] | refine zp ?_ | refine zq ?_ | (with_reducible first | refine bc (fun h => ?_) (fun h => ?_) | refine zt ?_ | refine zf ?_ | refine br_i (fun h => ?_) (fun h => ?_) | refine xi (pv_bool fun _ => nev23 _ _ _ _ _ _ _) ?_) | refine zg ?_ | refine zi ?_ | refine zb ?_ | refine zl ?_)
      all_goals conv => whnf
      all_goals rfl
  · rw [if_neg h0]
    have e : orN (fchk l) (askd n m) = fchk l := if_neg h0
    rw [e] at H3
    repeat' ((conv => whnf); first | (with_reducible first | refine br_t ?_ | refine br_f ?_ | refine za ?_ | refine zg ?_ | refine zo ?_) | rw [List.length_map] | refine zp ?_ | refine zq ?_ | (with_reducible first | refine bc (fun h => ?_) (fun h => ?_) | refine zt ?_ | refine zf ?_ | refine br_i (fun h => ?_) (fun h => ?_) | refine xi (pv_bool fun _ => nev23 _ _ _ _ _ _ _) ?_) | refine zg ?_ | refine zi ?_ | refine zb ?_ | refine zl ?_)
    all_goals conv => whnf
    all_goals rfl
end Go.Proofs.YtnjgfhgpicmklaaGreat

namespace Go.Proofs.YtnjgfhgpicmklaaGreat
open Go.RowKit Go.Sort Sx
end Go.Proofs.YtnjgfhgpicmklaaGreat

namespace Go.Proofs.YtnjgfhgpicmklaaGreat
open Go Go.RowKit Go.Sort Sx
def ldP (l : List Pt) (n m : Int) : Pt := (srt n m l)[0]?.getD default
def askV (m : Md) (a : Ak) : Md × Rp :=
  if formV a then
    (if a.k = 1 then (if (putV m.l a.p).2 = 0 then (⟨m.n, m.d, (putV m.l a.p).1⟩, rp0) else (m, rpE (putV m.l a.p).2))
    else if a.k = 2 then (if (takeV m.l a.id).2 = 0 then (⟨m.n, m.d, (takeV m.l a.id).1⟩, rp0) else (m, rpE (takeV m.l a.id).2))
    else if a.k = 3 then (if (changeV m.l a.p).2 = 0 then (⟨m.n, m.d, (changeV m.l a.p).1⟩, rp0) else (m, rpE (changeV m.l a.p).2))
    else if a.k = 4 then (if askd a.n a.d = 0 then (if a.n * m.d ≤ m.n * a.d then (m, rpE 44) else (⟨a.n, a.d, m.l⟩, ⟨0, 0, 0, 0, 0, btw (allM m.l) m.n m.d a.n a.d⟩)) else (m, rpE (askd a.n a.d)))
    else if a.k = 5 then (if m.l.length = 0 then (m, rpE 42) else (m, ⟨0, (ldP m.l m.n m.d).id, 0, (plc (ldP m.l m.n m.d) m.n m.d).1, (plc (ldP m.l m.n m.d) m.n m.d).2, []⟩))
    else (m, ⟨(closV m.l m.n m.d).2.2.2.2, (closV m.l m.n m.d).1, (closV m.l m.n m.d).2.1, (closV m.l m.n m.d).2.2.1, (closV m.l m.n m.d).2.2.2.1, []⟩))
  else (m, rpE 12)
abbrev retA (x : Md × Rp) : DV := .tup [x.1.dc, x.2.dc]
theorem ldP_mem {l : List Pt} {n m : Int} (h : l.length ≠ 0) : ldP l n m ∈ l := by
  have h0 : 0 < (srt n m l).length := by rw [srt_len]; omega
  unfold ldP
  rw [List.getElem?_eq_getElem h0]
  exact (srt_perm n m l).mem_iff.1 (List.getElem_mem h0)
theorem pos_mem {l : List Pt} {p : Pt} (hs : incr l = true) (hp : p ∈ l) : has l p.id = true ∧ l[pos l p.id]?.getD default = p := by
  have hh : has l p.id = true := List.any_eq_true.2 ⟨p, hp, by simp⟩
  refine ⟨hh, ?_⟩
  obtain ⟨hlt, he⟩ := (has_pos hs).1 hh
  rw [List.getElem?_eq_getElem hlt]
  obtain ⟨k, hk, rfl⟩ := List.getElem_of_mem hp
  have : pos l l[k].id = k := by
    rcases Nat.lt_trichotomy (pos l l[k].id) k with h | h | h
    · have := incr_lt hs k _ hk h; omega
    · exact h
    · have := incr_lt hs _ k hlt h; omega
  show l[pos l l[k].id] = l[k]
  exact getElem_congr rfl this _
theorem leadV_ok {l : List Pt} {n m : Int} (h1 : fchk l = 0) (h2 : chk n m = 0) : leadV l n m = if l.length = 0 then (0, 42) else ((ldP l n m).id, 0) := by
  unfold leadV tchk ldP
  rw [if_pos h1, if_pos h2]
theorem oask_fn {m : Md} (hm : mchk m = 0) (a : Ak) : FnOK Tryz.prog 56 [m.dc, a.dc] (retA (askV m a)) := by
  obtain ⟨g1, g2⟩ := mchk_ok hm
  obtain ⟨k1, k2, k3⟩ := fchk_ok g2
  obtain ⟨t1, _, _, _, _⟩ := askd_ok g1
  have H0 := oformed_fn a
  have HC := clonePt_own (m.l.map Pt.c) (by simp; omega)
  have HC' := ok_of_own HC
  have hk : formV a = true → a.k = 1 ∨ a.k = 2 ∨ a.k = 3 ∨ a.k = 4 ∨ a.k = 5 ∨ a.k = 6 := fun h => by
    unfold formV at h
    have := of_decide_eq_true h
    omega
  unfold askV
  cases hf : formV a
  · rw [hf] at H0
    rw [if_neg (by decide)]
    clear HC
    refine fn_ok (by kernel_rfl) ty_ok Tryz.func56 rfl (fun _ _ => Tryz.call56 _ _) rfl ?_
    intro hw
    clear hw
    exact zw
  · rw [hf] at H0
    rw [if_pos rfl]
    rcases hk hf with h | h | h | h | h | h
    · rw [if_pos h]
      have H1 := fPut_fn m.l a.p
      have H2 := oask1_mem (putV m.l a.p).1 (putV m.l a.p).2 rp0 m.n m.d m.l
      simp only [retFl] at H1
      simp only [Rp.c, rp0, mts, List.map_nil] at H2
      by_cases h0 : (putV m.l a.p).2 = 0
      · rw [if_pos h0] at H2 ⊢
        rw [h0] at H1 H2
        generalize (putV m.l a.p).1 = f at *
        clear HC
        refine fn_ok (by kernel_rfl) (ty_okK [] [] [] [79]) Tryz.func56 rfl (fun _ _ => Tryz.call56 _ _) rfl ?_
        intro hw
        clear hw
        exact zw
      · rw [if_neg h0] at H2 ⊢
        generalize (putV m.l a.p).1 = f at *
        generalize (putV m.l a.p).2 = z at *
        clear HC
        refine fn_ok (by kernel_rfl) (ty_okK [] [] [] [79]) Tryz.func56 rfl (fun _ _ => Tryz.call56 _ _) rfl ?_
        intro hw
        clear hw
        exact zw
    · rw [if_neg (by omega), if_pos h]
      have H1 := fTake_fn m.l a.id
      have H2 := oask1_mem (takeV m.l a.id).1 (takeV m.l a.id).2 rp0 m.n m.d m.l
      simp only [retFl] at H1
      simp only [Rp.c, rp0, mts, List.map_nil] at H2
      by_cases h0 : (takeV m.l a.id).2 = 0
      · rw [if_pos h0] at H2 ⊢
        rw [h0] at H1 H2
        generalize (takeV m.l a.id).1 = f at *
        clear HC
        refine fn_ok (by kernel_rfl) (ty_okK [] [] [] [79]) Tryz.func56 rfl (fun _ _ => Tryz.call56 _ _) rfl ?_
        intro hw
        clear hw
        exact zw
      · rw [if_neg h0] at H2 ⊢
        generalize (takeV m.l a.id).1 = f at *
        generalize (takeV m.l a.id).2 = z at *
        clear HC
        refine fn_ok (by kernel_rfl) (ty_okK [] [] [] [79]) Tryz.func56 rfl (fun _ _ => Tryz.call56 _ _) rfl ?_
        intro hw
        clear hw
        exact zw
    · rw [if_neg (by omega), if_neg (by omega), if_pos h]
      have H1 := fChange_fn m.l a.p
      have H2 := oask1_mem (changeV m.l a.p).1 (changeV m.l a.p).2 rp0 m.n m.d m.l
      simp only [retFl] at H1
      simp only [Rp.c, rp0, mts, List.map_nil] at H2
      by_cases h0 : (changeV m.l a.p).2 = 0
      · rw [if_pos h0] at H2 ⊢
        rw [h0] at H1 H2
        generalize (changeV m.l a.p).1 = f at *
        clear HC
        refine fn_ok (by kernel_rfl) (ty_okK [] [] [] [79]) Tryz.func56 rfl (fun _ _ => Tryz.call56 _ _) rfl ?_
        intro hw
        clear hw
        exact zw
      · rw [if_neg h0] at H2 ⊢
        generalize (changeV m.l a.p).1 = f at *
        generalize (changeV m.l a.p).2 = z at *
        clear HC
        refine fn_ok (by kernel_rfl) (ty_okK [] [] [] [79]) Tryz.func56 rfl (fun _ _ => Tryz.call56 _ _) rfl ?_
        intro hw
        clear hw
        exact zw
    · rw [if_neg (by omega), if_neg (by omega), if_neg (by omega), if_pos h]
      have H1 := asked_fn a.n a.d
      by_cases h1 : askd a.n a.d = 0
      · rw [if_pos h1]
        rw [h1] at H1
        have t2 := (askd_ok h1).1
        have H2 := cmp_fn a.n a.d m.n m.d
        unfold cmpV bth at H2
        rw [if_pos (by rw [t2, if_pos rfl, t1])] at H2
        by_cases h2 : a.n * m.d ≤ m.n * a.d
        · rw [if_pos h2]
          have h3 : cmpN (a.n * m.d) (m.n * a.d) ≤ 0 := by unfold cmpN; (repeat' split) <;> omega
          generalize cmpN (a.n * m.d) (m.n * a.d) = z at *
          simp only [ret2] at H2
          clear HC
          refine fn_ok (by kernel_rfl) ty_ok Tryz.func56 rfl (fun _ _ => Tryz.call56 _ _) rfl ?_
          intro hw
          clear hw
          exact zw
        · rw [if_neg h2]
          have h3 : ¬ cmpN (a.n * m.d) (m.n * a.d) ≤ 0 := by unfold cmpN; (repeat' split) <;> omega
          have H3 := mAll_fn m.l m.n m.d a.n a.d
          have h4 : mchk2 m.l m.n m.d a.n a.d = 0 := by unfold mchk2; rw [if_pos g2, if_pos t1, if_pos t2, if_neg (by omega)]
          unfold mallV at H3
          rw [if_pos h4] at H3
          generalize btw (allM m.l) m.n m.d a.n a.d = L at *
          generalize cmpN (a.n * m.d) (m.n * a.d) = z at *
          simp only [ret2] at H2
          simp only [retMts] at H3
          clear HC
          refine fn_ok (by kernel_rfl) ty_ok Tryz.func56 rfl (fun _ _ => Tryz.call56 _ _) rfl ?_
          intro hw
          clear hw
          exact zw
      · rw [if_neg h1]
        generalize askd a.n a.d = z at *
        clear HC
        refine fn_ok (by kernel_rfl) ty_ok Tryz.func56 rfl (fun _ _ => Tryz.call56 _ _) rfl ?_
        intro hw
        clear hw
        exact zw
    · rw [if_neg (by omega), if_neg (by omega), if_neg (by omega), if_neg (by omega), if_pos h]
      have H1 := fLeader_fn m.l m.n m.d
      rw [leadV_ok g2 t1] at H1
      by_cases h1 : m.l.length = 0
      · rw [if_pos h1] at H1 ⊢
        clear HC
        refine fn_ok (by kernel_rfl) ty_ok Tryz.func56 rfl (fun _ _ => Tryz.call56 _ _) rfl ?_
        intro hw
        clear hw
        exact zw
      · rw [if_neg h1] at H1 ⊢
        have hmem := ldP_mem (n := m.n) (m := m.d) h1
        obtain ⟨p1, p2⟩ := pos_mem k3 hmem
        have H2 := fFind_fn m.l (ldP m.l m.n m.d).id
        unfold findV at H2
        rw [if_pos g2, if_pos p1, p2] at H2
        have H3 := kAt_fn (ldP m.l m.n m.d).id (ldP m.l m.n m.d).a (ldP m.l m.n m.d).b m.n m.d
        rw [(plc_ok (k2 _ hmem) g1).1] at H3
        simp only [ret3] at H3
        simp only [ret2] at H1
        generalize ldP m.l m.n m.d = p at *
        clear HC
        refine fn_ok (by kernel_rfl) ty_ok Tryz.func56 rfl (fun _ _ => Tryz.call56 _ _) rfl ?_
        intro hw
        clear hw
        exact zw
    · rw [if_neg (by omega), if_neg (by omega), if_neg (by omega), if_neg (by omega), if_neg (by omega)]
      have H1 := oClosest_fn m.l m.n m.d
      generalize closV m.l m.n m.d = x at *
      clear HC
      refine fn_ok (by kernel_rfl) ty_ok Tryz.func56 rfl (fun _ _ => Tryz.call56 _ _) rfl ?_
      intro hw
      clear hw
      exact zw
end Go.Proofs.YtnjgfhgpicmklaaGreat
