import Derived.Test.YtepmgbmnghiaoaaGreatGcBA
import Derived.Test.YtepmgbmnghiaoaaGreatGcAK
import Derived.Test.YtepmgbmnghiaoaaGreatProg
import Derived.Test.YtepmgbmnghiaoaaGreatGcAZ
import Derived.Test.YtepmgbmnghiaoaaGreatGcAT
import Derived.Test.YtepmgbmnghiaoaaGreatGcAV
import Derived.Lib.AppendZeros
set_option linter.all false
namespace Go.Proofs.YtepmgbmnghiaoaaGreat
open Go Go.RowKit
namespace Sx
theorem eqv104 (a0 b0 : Int) (a1 b1 : Int) (x y : Operand) (w : World) : (do eqGuard .eql 104 x y (.agg #[.int .u8 a0, .int .i64 a1]) (.agg #[.int .u8 b0, .int .i64 b1]); binOp .eql 104 (.agg #[.int .u8 a0, .int .i64 a1]) (.agg #[.int .u8 b0, .int .i64 b1]) : Sem Value).run Tryz.prog w = .ok (.bool (decide (a0 = b0 ∧ a1 = b1))) w := by
  by_cases h0 : a0 = b0
  · skip
    by_cases h1 : a1 = b1
    · skip
      simp [go_sem, eqGuard, binOp, Op.equal, Op.maxDepth, h0, h1]
    · simp [go_sem, eqGuard, binOp, Op.equal, Op.maxDepth, h0, h1]
  · simp [go_sem, eqGuard, binOp, Op.equal, Op.maxDepth, h0]
theorem nev104 (a0 b0 : Int) (a1 b1 : Int) (x y : Operand) (w : World) : (do eqGuard .neq 104 x y (.agg #[.int .u8 a0, .int .i64 a1]) (.agg #[.int .u8 b0, .int .i64 b1]); binOp .neq 104 (.agg #[.int .u8 a0, .int .i64 a1]) (.agg #[.int .u8 b0, .int .i64 b1]) : Sem Value).run Tryz.prog w = .ok (.bool (decide (¬ (a0 = b0 ∧ a1 = b1)))) w := by
  by_cases h0 : a0 = b0
  · skip
    by_cases h1 : a1 = b1
    · skip
      simp [go_sem, eqGuard, binOp, Op.equal, Op.maxDepth, h0, h1]
    · simp [go_sem, eqGuard, binOp, Op.equal, Op.maxDepth, h0, h1]
  · simp [go_sem, eqGuard, binOp, Op.equal, Op.maxDepth, h0]
end Sx
end Go.Proofs.YtepmgbmnghiaoaaGreat

namespace Go.Proofs.YtepmgbmnghiaoaaGreat
open Go Go.RowKit Go.Sort Sx
end Go.Proofs.YtepmgbmnghiaoaaGreat

namespace Go.Proofs.YtepmgbmnghiaoaaGreat
open Go.RowKit Go.Sort Sx
structure Dis (l : List Pt) : Prop where
  ok : ∀ p ∈ l, p.chk = 0
  ne : l.Pairwise fun p q => p.id ≠ q.id
end Go.Proofs.YtepmgbmnghiaoaaGreat

namespace Go.Proofs.YtepmgbmnghiaoaaGreat
open Go.RowKit Go.Sort Sx
structure Uk where
  k : Int
  id : Int
  deriving DecidableEq, Inhabited
def Uk.c (u : Uk) : List D := [u8 u.k, i64 u.id]
abbrev Uk.dc (u : Uk) : DC := .agg [u8 u.k, i64 u.id]
abbrev uks (l : List Uk) : D := .list 2 (l.map Uk.c)
structure Un where
  k : Int
  id : Int
  p : Pt
  deriving DecidableEq, Inhabited
def Un.c (u : Un) : List D := [u8 u.k, i64 u.id, i64 u.p.id, i64 u.p.a, i64 u.p.b]
abbrev uns (l : List Un) : D := .list 5 (l.map Un.c)
def Un.u (u : Un) : Uk := ⟨u.k, u.id⟩
def mrg : List Pt → List Pt → List Un
  | [], [] => []
  | p :: a, [] => ⟨2, p.id, p⟩ :: mrg a []
  | [], q :: b => ⟨3, q.id, q⟩ :: mrg [] b
  | p :: a, q :: b => if p.id < q.id then ⟨2, p.id, p⟩ :: mrg a (q :: b) else if q.id < p.id then ⟨3, q.id, q⟩ :: mrg (p :: a) b else if p = q then mrg a b else ⟨4, p.id, q⟩ :: mrg a b
termination_by a b => a.length + b.length
theorem mrg_nn : mrg [] [] = [] := by rw [mrg]
theorem mrg_a {p : Pt} {a b : List Pt} (h : b = [] ∨ ∃ q c, b = q :: c ∧ p.id < q.id) : mrg (p :: a) b = ⟨2, p.id, p⟩ :: mrg a b := by
  rcases h with rfl | ⟨q, c, rfl, h⟩
  · rw [mrg]
  · rw [mrg, if_pos h]
theorem mrg_b {q : Pt} {a b : List Pt} (h : a = [] ∨ ∃ p c, a = p :: c ∧ q.id < p.id) : mrg a (q :: b) = ⟨3, q.id, q⟩ :: mrg a b := by
  rcases h with rfl | ⟨p, c, rfl, h⟩
  · rw [mrg]
  · rw [mrg, if_neg (by omega), if_pos h]
theorem mrg_e {p : Pt} {a b : List Pt} : mrg (p :: a) (p :: b) = mrg a b := by
  rw [mrg, if_neg (by omega), if_neg (by omega), if_pos rfl]
theorem mrg_n {p q : Pt} {a b : List Pt} (h : p.id = q.id) (hn : p ≠ q) : mrg (p :: a) (q :: b) = ⟨4, p.id, q⟩ :: mrg a b := by
  rw [mrg, if_neg (by omega), if_neg (by omega), if_neg hn]
theorem mrg_ind {Q : List Pt → List Pt → Prop} (h0 : Q [] []) (ha : ∀ p a b, (b = [] ∨ ∃ q c, b = q :: c ∧ p.id < q.id) → Q a b → Q (p :: a) b) (hb : ∀ q a b, (a = [] ∨ ∃ p c, a = p :: c ∧ q.id < p.id) → Q a b → Q a (q :: b))
    (he : ∀ p q a b, p.id = q.id → Q a b → Q (p :: a) (q :: b)) : ∀ a b, Q a b
  | [], [] => h0
  | p :: a, [] => ha p a [] (.inl rfl) (mrg_ind h0 ha hb he a [])
  | [], q :: b => hb q [] b (.inl rfl) (mrg_ind h0 ha hb he [] b)
  | p :: a, q :: b => by
    rcases Int.lt_trichotomy p.id q.id with h | h | h
    · exact ha p a (q :: b) (.inr ⟨q, b, rfl, h⟩) (mrg_ind h0 ha hb he a (q :: b))
    · exact he p q a b h (mrg_ind h0 ha hb he a b)
    · exact hb q (p :: a) b (.inr ⟨p, a, rfl, h⟩) (mrg_ind h0 ha hb he (p :: a) b)
termination_by a b => a.length + b.length
def lk (l : List Pt) (id : Int) : Option Pt := l.find? fun p => p.id == id
theorem mrg_mem : ∀ (a b : List Pt), ∀ u ∈ mrg a b, (u.k = 2 ∧ u.p ∈ a ∨ (u.k = 3 ∨ u.k = 4) ∧ u.p ∈ b) ∧ u.p.id = u.id := by
  refine mrg_ind ?_ ?_ ?_ ?_
  · rw [mrg_nn]; simp
  · intro p a b hb ih u hu
    rw [mrg_a hb] at hu
    rcases List.mem_cons.1 hu with rfl | hu
    · exact ⟨.inl ⟨rfl, List.mem_cons_self ..⟩, rfl⟩
    · obtain ⟨h, e⟩ := ih u hu
      exact ⟨h.imp (fun h => ⟨h.1, List.mem_cons_of_mem _ h.2⟩) id, e⟩
  · intro q a b ha ih u hu
    rw [mrg_b ha] at hu
    rcases List.mem_cons.1 hu with rfl | hu
    · exact ⟨.inr ⟨.inl rfl, List.mem_cons_self ..⟩, rfl⟩
    · obtain ⟨h, e⟩ := ih u hu
      exact ⟨h.imp id (fun h => ⟨h.1, List.mem_cons_of_mem _ h.2⟩), e⟩
  · intro p q a b e ih u hu
    have key : u ∈ mrg a b → (u.k = 2 ∧ u.p ∈ p :: a ∨ (u.k = 3 ∨ u.k = 4) ∧ u.p ∈ q :: b) ∧ u.p.id = u.id := fun hu => by
      obtain ⟨h, e⟩ := ih u hu
      exact ⟨h.imp (fun h => ⟨h.1, List.mem_cons_of_mem _ h.2⟩) (fun h => ⟨h.1, List.mem_cons_of_mem _ h.2⟩), e⟩
    by_cases c : p = q
    · subst c
      rw [mrg_e] at hu
      exact key hu
    · rw [mrg_n e c] at hu
      rcases List.mem_cons.1 hu with rfl | hu
      · exact ⟨.inr ⟨.inr rfl, List.mem_cons_self ..⟩, e.symm⟩
      · exact key hu
theorem mrg_len : ∀ (a b : List Pt), (mrg a b).length ≤ a.length + b.length := by
  refine mrg_ind ?_ ?_ ?_ ?_
  · rw [mrg_nn]; simp
  · intro p a b hb ih
    rw [mrg_a hb]; simp only [List.length_cons]; omega
  · intro p a b hb ih
    rw [mrg_b hb]; simp only [List.length_cons]; omega
  · intro p q a b e ih
    by_cases c : p = q
    · subst c; rw [mrg_e]; simp only [List.length_cons]; omega
    · rw [mrg_n e c]; simp only [List.length_cons]; omega
theorem mrg_nil : ∀ (a b : List Pt), mrg a b = [] ↔ a = b := by
  refine mrg_ind ?_ ?_ ?_ ?_
  · rw [mrg_nn]; simp
  · intro p a b hb ih
    rw [mrg_a hb]
    refine iff_of_false (by simp) ?_
    rcases hb with rfl | ⟨q, c, rfl, h⟩
    · simp
    · intro e
      injection e with e1 _
      subst e1; omega
  · intro q a b ha ih
    rw [mrg_b ha]
    refine iff_of_false (by simp) ?_
    rcases ha with rfl | ⟨p, c, rfl, h⟩
    · simp
    · intro e
      injection e with e1 _
      subst e1; omega
  · intro p q a b e ih
    by_cases c : p = q
    · subst c; rw [mrg_e, ih]; simp
    · rw [mrg_n e c]
      refine iff_of_false (by simp) ?_
      intro e
      injection e with e1 _
      exact c e1
def Uk.turn (u : Uk) : Uk := if u.k = 2 then ⟨3, u.id⟩ else if u.k = 3 then ⟨2, u.id⟩ else u
def nowU (m n : Md) : List Uk := if m.n = n.n ∧ m.d = n.d then [] else [⟨1, 0⟩]
def allU (m n : Md) : List Uk := nowU m n ++ (mrg m.l n.l).map Un.u
def tkA (U : List Un) : List Ak := (U.filter fun u => decide (u.k = 2)).map fun u => ⟨2, ⟨0, 0, 0⟩, u.id, 0, 0⟩
def chA (U : List Un) : List Ak := (U.filter fun u => decide (u.k = 4)).map fun u => ⟨3, u.p, 0, 0, 0⟩
def ptA (U : List Un) : List Ak := (U.filter fun u => decide (u.k = 3)).map fun u => ⟨1, u.p, 0, 0, 0⟩
def mvA (m n : Md) : List Ak := if m.n = n.n ∧ m.d = n.d then [] else [⟨4, ⟨0, 0, 0⟩, 0, n.n, n.d⟩]
def asksL (m n : Md) : List Ak := tkA (mrg m.l n.l) ++ chA (mrg m.l n.l) ++ ptA (mrg m.l n.l) ++ mvA m n
def bothV (m n : Md) : Int := if mchk m = 0 then mchk n else 8
def asksV (m n : Md) : List Ak × Int := if bothV m n = 0 then (if n.n * m.d < m.n * n.d then ([], 44) else if 120 < (asksL m n).length then ([], 4) else (asksL m n, 0)) else ([], 8)
def allV (m n : Md) : List Uk × Int := if bothV m n = 0 then (allU m n, 0) else ([], 8)
def firstV (m n : Md) : Uk × Int := if bothV m n = 0 then (match allU m n with | [] => (⟨0, 0⟩, 6) | u :: _ => (u, 0)) else (⟨0, 0⟩, 8)
def sameV (m n : Md) : Bool × Int := if bothV m n = 0 then (decide (m = n), 0) else (false, 8)
theorem both_ok {m n : Md} (h : bothV m n = 0) : mchk m = 0 ∧ mchk n = 0 := by
  unfold bothV at h
  split at h
  · exact ⟨by assumption, h⟩
  · simp at h
theorem both_08 (m n : Md) : bothV m n = 0 ∨ bothV m n = 8 := by
  unfold bothV
  split
  · exact mchk_08 n
  · exact .inr rfl
theorem mrg_kinds {a b : List Pt} {u : Un} (h : u ∈ mrg a b) : u.k = 2 ∨ u.k = 3 ∨ u.k = 4 := by
  rcases (mrg_mem a b u h).1 with h | h
  · exact .inl h.1
  · exact .inr h.1
end Go.Proofs.YtepmgbmnghiaoaaGreat

namespace Go.Proofs.YtepmgbmnghiaoaaGreat
open Go.RowKit Go.Sort Sx
def takeA (id : Int) : Ak := ⟨2, ⟨0, 0, 0⟩, id, 0, 0⟩
end Go.Proofs.YtepmgbmnghiaoaaGreat

namespace Go.Proofs.YtepmgbmnghiaoaaGreat
open Go.RowKit Go.Sort Sx
def repsV (m n : Md) (l : List Ak) : Int × Int := if bothV m n = 0 then (if 120 < l.length then (0, 4) else wrgI m l (runs n l).2) else (0, 8)
theorem wrgI_none {m n : Md} {l : List Ak} (h : (runs m l).2 = (runs n l).2) : wrgI m l (runs n l).2 = (0, 6) := by
  unfold wrgI; rw [(wrg_none m l _ (runs_len n l)).2 h]
theorem wrgI_some {m n : Md} {l : List Ak} {i : Nat} (h1 : i < (runs m l).2.length) (h2 : i < (runs n l).2.length) (h3 : (runs m l).2[i] ≠ (runs n l).2[i]) (h4 : ∀ j (k1 : j < (runs m l).2.length) (k2 : j < (runs n l).2.length), j < i → (runs m l).2[j] = (runs n l).2[j]) : wrgI m l (runs n l).2 = ((i : Int), 0) := by
  unfold wrgI; rw [(wrg_some m l _ i (runs_len n l)).2 ⟨h1, h2, h3, h4⟩]
theorem mrg_right : ∀ (b : List Pt), mrg [] b = b.map fun p => ⟨3, p.id, p⟩
  | [] => mrg_nn
  | p :: b => by rw [mrg_b (.inl rfl), mrg_right b]; rfl
theorem mrg_sep {b : List Pt} : ∀ (a : List Pt), (∀ p ∈ a, ∀ q ∈ b, p.id < q.id) → mrg a b = (a.map fun p => ⟨2, p.id, p⟩) ++ b.map fun p => ⟨3, p.id, p⟩
  | [], _ => mrg_right b
  | p :: a, h => by
    rw [mrg_a, mrg_sep a fun q hq => h q (List.mem_cons_of_mem _ hq)]; rfl
    cases b with
    | nil => exact .inl rfl
    | cons q c => exact .inr ⟨q, c, rfl, h p (List.mem_cons_self ..) q (List.mem_cons_self ..)⟩
theorem mrg_same {f : Pt → Pt} : ∀ (a : List Pt), (∀ p ∈ a, (f p).id = p.id ∧ f p ≠ p) → mrg a (a.map f) = a.map fun p => ⟨4, p.id, f p⟩
  | [], _ => mrg_nn
  | p :: a, h => by
    obtain ⟨h1, h2⟩ := h p (List.mem_cons_self ..)
    rw [List.map_cons, mrg_n h1.symm h2.symm, mrg_same a fun q hq => h q (List.mem_cons_of_mem _ hq)]; rfl
theorem mrg_self : ∀ (a : List Pt), mrg a a = []
  | [] => mrg_nn
  | p :: a => by rw [mrg_e, mrg_self a]
end Go.Proofs.YtepmgbmnghiaoaaGreat

namespace Go.Proofs.YtepmgbmnghiaoaaGreat
open Go.RowKit Go.Sort Sx
theorem eqPt_fn (a b : List Pt) : FnOK Tryz.prog 85 [.one (pts a), .one (pts b)] (.c (.one (bol (decide (a = b))))) := by
  refine fn_ok (by kernel_rfl) ty_ok Tryz.func85 rfl (fun _ _ => Tryz.call85 _ _) rfl ?_
  intro hw
  simp only [WDCs, WDC, WDs] at hw
  obtain ⟨w1, _⟩ := wd_pts hw.1
  obtain ⟨w2, _⟩ := wd_pts hw.2.1
  clear hw
  by_cases h0 : a.length = b.length
  · repeat' ((conv => whnf); first | (with_reducible first | refine br_t ?_ | refine br_f ?_ | refine za ?_ | refine zg ?_) | rw [List.length_map] | refine zp ?_ | refine zq ?_ | (with_reducible first | refine bc (fun h => ?_) (fun h => ?_) | refine zt ?_ | refine zf ?_ | refine br_i (fun h => ?_) (fun h => ?_) | refine xi (pv_bool fun _ => nev30 _ _ _ _ _ _ _ _ _) ?_) | refine zg ?_ | refine zi ?_ | refine zb ?_)
    refine loop_J (by kernel_rfl) ty_ok (σ := Nat) (fun i => [(13, sV (.int .i64 i))]) (fun _ => []) (fun i => i ≤ a.length ∧ a.take i = b.take i) (fun i => a.length - i) 0 ⟨by omega, rfl⟩ ?_ ?_
    · (conv => whnf); exact zent
    rintro i ⟨hi, hI⟩
    rcases Nat.lt_or_ge i a.length with hlt | hge
    · have hb : i < b.length := by omega
      have he1 := pts_get hlt
      have he2 := pts_get hb
      by_cases hc : a[i] = b[i]
      · have hq := Pt.eq_iff.1 hc
        repeat' ((conv => whnf); first | (with_reducible first | refine br_t ?_ | refine br_f ?_ | refine za ?_ | refine zg ?_) | rw [List.length_map] | refine zp ?_ | refine zq ?_ | (with_reducible first | refine bc (fun h => ?_) (fun h => ?_) | refine zt ?_ | refine zf ?_ | refine br_i (fun h => ?_) (fun h => ?_) | refine xi (pv_bool fun _ => nev30 _ _ _ _ _ _ _ _ _) ?_) | refine zg ?_ | refine zi ?_ | refine zb ?_)
        all_goals conv => whnf
        refine ⟨i + 1, ⟨by omega, take_succ_eq hI hlt hb hc⟩, ?_, by omega⟩
        (conv => whnf); exact zent
      · have hq := mt Pt.eq_iff.2 hc
        rw [decide_eq_false (ne_of_get hlt hb hc)]
        repeat' ((conv => whnf); first | (with_reducible first | refine br_t ?_ | refine br_f ?_ | refine za ?_ | refine zg ?_) | rw [List.length_map] | refine zp ?_ | refine zq ?_ | (with_reducible first | refine bc (fun h => ?_) (fun h => ?_) | refine zt ?_ | refine zf ?_ | refine br_i (fun h => ?_) (fun h => ?_) | refine xi (pv_bool fun _ => nev30 _ _ _ _ _ _ _ _ _) ?_) | refine zg ?_ | refine zi ?_ | refine zb ?_)
        all_goals conv => whnf
        all_goals rfl
    · rw [decide_eq_true (take_all_eq hI h0 hge)]
      repeat' ((conv => whnf); first | (with_reducible first | refine br_t ?_ | refine br_f ?_ | refine za ?_ | refine zg ?_) | rw [List.length_map] | refine zp ?_ | refine zq ?_ | (with_reducible first | refine bc (fun h => ?_) (fun h => ?_) | refine zt ?_ | refine zf ?_ | refine br_i (fun h => ?_) (fun h => ?_) | refine xi (pv_bool fun _ => nev30 _ _ _ _ _ _ _ _ _) ?_) | refine zg ?_ | refine zi ?_ | refine zb ?_)
      all_goals conv => whnf
      all_goals rfl
  · rw [decide_eq_false (fun h => h0 (congrArg List.length h))]
    repeat' ((conv => whnf); first | (with_reducible first | refine br_t ?_ | refine br_f ?_ | refine za ?_ | refine zg ?_) | rw [List.length_map] | refine zp ?_ | refine zq ?_ | (with_reducible first | refine bc (fun h => ?_) (fun h => ?_) | refine zt ?_ | refine zf ?_ | refine br_i (fun h => ?_) (fun h => ?_) | refine xi (pv_bool fun _ => nev30 _ _ _ _ _ _ _ _ _) ?_) | refine zg ?_ | refine zi ?_ | refine zb ?_)
    all_goals conv => whnf
    all_goals rfl
theorem cmpN_cases (a b : Int) : (a < b ∧ cmpN a b = -1) ∨ (a = b ∧ cmpN a b = 0) ∨ (b < a ∧ cmpN a b = 1) := by
  unfold cmpN
  split
  · exact .inl ⟨by assumption, rfl⟩
  · split
    · exact .inr (.inr ⟨by omega, rfl⟩)
    · exact .inr (.inl ⟨by omega, rfl⟩)
theorem cmp_chk {p q r t : Int} (h1 : chk p q = 0) (h2 : chk r t = 0) : FnOK Tryz.prog 86 (rat2 p q r t) (.tup [.one (i64 (cmpN (p * t) (r * q))), .one (i64 0)]) := by
  have := cmp_fn p q r t
  unfold cmpV bth at this
  rw [if_pos (by rw [h1, if_pos rfl, h2])] at this
  exact this
end Go.Proofs.YtepmgbmnghiaoaaGreat

namespace Go.Proofs.YtepmgbmnghiaoaaGreat
open Go Go.RowKit Go.Sort Sx
theorem dboth_fn (m n : Md) : FnOK Tryz.prog 71 [m.dc, n.dc] (ret1 (bothV m n)) := by
  have H1 := oCheck_fn m
  have H2 := oCheck_fn n
  unfold bothV
  by_cases h : mchk m = 0
  · rw [if_pos h]
    rw [h] at H1
    generalize mchk n = z at *
    refine fn_ok (by kernel_rfl) ty_ok Tryz.func71 rfl (fun _ _ => Tryz.call71 _ _) rfl ?_
    intro hw
    clear hw
    exact zw
  · rw [if_neg h]
    have h8 := (mchk_08 m).resolve_left h
    rw [h8] at H1
    refine fn_ok (by kernel_rfl) ty_ok Tryz.func71 rfl (fun _ _ => Tryz.call71 _ _) rfl ?_
    intro hw
    clear hw
    exact zw
theorem dReplies_fn (m n : Md) (l : List Ak) : FnOK Tryz.prog 28 [m.dc, n.dc, .one (aks l)] (ret2 (repsV m n l)) := by
  have H0 := dboth_fn m n
  unfold repsV
  by_cases h : bothV m n = 0
  · rw [if_pos h]
    rw [h] at H0
    obtain ⟨hm, hn⟩ := both_ok h
    have H1 := oRun_fn m l
    have H2 := oRun_fn n l
    unfold runV at H1 H2
    rw [if_pos hm] at H1
    rw [if_pos hn] at H2
    by_cases h1 : 120 < l.length
    · rw [if_pos h1] at H1 H2 ⊢
      simp only [retR] at H1
      clear H2
      refine fn_ok (by kernel_rfl) ty_ok Tryz.func28 rfl (fun _ _ => Tryz.call28 _ _) rfl ?_
      intro hw
      clear hw
      exact zw
    · rw [if_neg h1] at H1 H2 ⊢
      have hW := fun i => wrgI_some (m := m) (n := n) (l := l) (i := i)
      have hN := wrgI_none (m := m) (n := n) (l := l)
      have e1 := runs_len m l
      have e2 := runs_len n l
      generalize wrgI m l (runs n l).2 = X at *
      generalize (runs m l).1 = y1 at *
      generalize (runs n l).1 = y2 at *
      generalize (runs m l).2 = o at *
      generalize (runs n l).2 = q at *
      have hol : (o.map Rp.c).length = o.length := List.length_map ..
      have hql : (q.map Rp.c).length = q.length := List.length_map ..
      simp only [retR] at H1 H2
      refine fn_ok (by kernel_rfl) ty_ok Tryz.func28 rfl (fun _ _ => Tryz.call28 _ _) rfl ?_
      intro hw
      clear hw
      repeat' ((conv => whnf); first | (with_reducible first | refine br_t ?_ | refine br_f ?_ | refine za ?_ | refine zg ?_) | rw [hol] | refine zp ?_ | refine zq ?_ | (with_reducible first | refine bc (fun h => ?_) (fun h => ?_) | refine zt ?_ | refine zf ?_ | refine br_i (fun h => ?_) (fun h => ?_)) | refine zg ?_ | refine zi ?_ | refine zb ?_)
      clear H0 H1 H2
      refine loop_J (by kernel_rfl) ty_ok (σ := Nat) (fun i => [(43, sV (.int .i64 i))]) (fun _ => []) (fun i => i ≤ o.length ∧ ∀ j (k1 : j < o.length) (k2 : j < q.length), j < i → o[j] = q[j]) (fun i => o.length - i) 0 ⟨Nat.zero_le _, fun j _ _ h => absurd h (Nat.not_lt_zero _)⟩ ?_ ?_
      · (conv => whnf); exact zent
      rintro i ⟨hi, hI⟩
      rcases Nat.lt_or_ge i o.length with hlt | hge
      · have hlt2 : i < q.length := by omega
        have g1 := rps_get hlt
        have g2 := rps_get hlt2
        have HS := oSame_fn o[i] q[i]
        by_cases hc : o[i] = q[i]
        · rw [decide_eq_true hc] at HS
          have hn : ∀ j (k1 : j < o.length) (k2 : j < q.length), j < i + 1 → o[j] = q[j] := fun j k1 k2 hj => by
            rcases Nat.lt_or_ge j i with h | h
            · exact hI j k1 k2 h
            · obtain rfl : j = i := by omega
              exact hc
          clear hc hI hW hN
          generalize o[i] = a at *
          generalize q[i] = b at *
          repeat' ((conv => whnf); first | (with_reducible first | refine br_t ?_ | refine br_f ?_ | refine za ?_ | refine zg ?_) | rw [hol] | rw [hql] | refine zp ?_ | refine zq ?_ | (with_reducible first | refine bc (fun h => ?_) (fun h => ?_) | refine zt ?_ | refine zf ?_ | refine br_i (fun h => ?_) (fun h => ?_)) | refine zg ?_ | refine zi ?_ | refine zb ?_)
          all_goals conv => whnf
          refine ⟨i + 1, ⟨by omega, hn⟩, ?_, by omega⟩
          (conv => whnf); exact zent
        · rw [decide_eq_false hc] at HS
          rw [hW i hlt hlt2 hc hI]
          clear hc hI hW hN
          generalize o[i] = a at *
          generalize q[i] = b at *
          repeat' ((conv => whnf); first | (with_reducible first | refine br_t ?_ | refine br_f ?_ | refine za ?_ | refine zg ?_) | rw [hol] | rw [hql] | refine zp ?_ | refine zq ?_ | (with_reducible first | refine bc (fun h => ?_) (fun h => ?_) | refine zt ?_ | refine zf ?_ | refine br_i (fun h => ?_) (fun h => ?_)) | refine zg ?_ | refine zi ?_ | refine zb ?_)
          all_goals conv => whnf
          all_goals rfl
      · rw [hN (List.ext_getElem (by omega) fun j k1 k2 => hI j k1 k2 (by omega))]
        clear hI hW hN
        repeat' ((conv => whnf); first | (with_reducible first | refine br_t ?_ | refine br_f ?_ | refine za ?_ | refine zg ?_) | rw [hol] | refine zp ?_ | refine zq ?_ | (with_reducible first | refine bc (fun h => ?_) (fun h => ?_) | refine zt ?_ | refine zf ?_ | refine br_i (fun h => ?_) (fun h => ?_)) | refine zg ?_ | refine zi ?_ | refine zb ?_)
        all_goals conv => whnf
        all_goals rfl
  · rw [if_neg h]
    rw [(both_08 m n).resolve_left h] at H0
    refine fn_ok (by kernel_rfl) ty_ok Tryz.func28 rfl (fun _ _ => Tryz.call28 _ _) rfl ?_
    intro hw
    clear hw
    exact zw
end Go.Proofs.YtepmgbmnghiaoaaGreat

namespace Go.Proofs.YtepmgbmnghiaoaaGreat
open Go Go.RowKit
namespace Sx
variable {P : Program} {sz : Nat} {E : Env} {H : Hp}
def kpE (ks : List Nat) : List Nat → Env → Env
  | _, [] => []
  | D, (t, x) :: r => match memB t D with
    | true => kpE ks D r
    | false => match memB t ks with | true => (t, x) :: kpE ks (t :: D) r | false => kpE ks (t :: D) r
theorem look_kpE {ks : List Nat} : ∀ {E : Env} {D : List Nat} {t : Nat} {x : SV}, look (kpE ks D E) t = some x → t ∉ D ∧ look E t = some x
  | [], D, t, x, h => by simp [kpE, look] at h
  | (u, y) :: r, D, t, x, h => by
    unfold kpE at h
    rw [look_cons]
    split at h
    · rename_i hm
      obtain ⟨h1, h2⟩ := look_kpE h
      exact ⟨h1, by rw [if_neg (by rintro rfl; exact h1 (memB_iff.1 hm))]; exact h2⟩
    · rename_i hm
      have hm' : u ∉ D := fun h' => by rw [memB_iff.2 h'] at hm; cases hm
      split at h
      · rw [look_cons] at h
        split at h
        · rename_i e
          injection h with h
          subst e h
          exact ⟨hm', by rw [if_pos rfl]⟩
        · obtain ⟨h1, h2⟩ := look_kpE h
          refine ⟨fun h' => h1 (List.mem_cons_of_mem _ h'), ?_⟩
          rename_i e
          rw [if_neg e]; exact h2
      · obtain ⟨h1, h2⟩ := look_kpE h
        exact ⟨fun h' => h1 (List.mem_cons_of_mem _ h'), by rw [if_neg (by rintro rfl; exact h1 (List.mem_cons_self ..))]; exact h2⟩
theorem loop_keep (ks : List Nat) {dm : Bool} {body : Code} {k : Exit → Env → Hp → Prop} (h : frcEnv (kpE ks [] E) fun E1 => LoopP P sz dm body E1 H k) : LoopP P sz dm body E H k :=
  ⟨fun C M0 w0 ρ a w Q hdm R hQ => ((frcEnv_iff _ _).1 h).run C M0 w0 ρ a w Q hdm (R.same (fun t x hx => (look_kpE hx).2) fun _ => rfl) hQ⟩
end Sx
end Go.Proofs.YtepmgbmnghiaoaaGreat

namespace Go.Proofs.YtepmgbmnghiaoaaGreat
open Go Go.RowKit Go.Sort Sx
set_option maxHeartbeats 4000000 in
set_option maxRecDepth 100000 in
theorem growAk_run (n : Nat) (w : World) (h0 : 0 < n) (h1 : n ≤ 1000000) : Calls Tryz.prog 124 #[.slice none 0 0, .int .i64 n] w fun e w' => ∃ (G : Nat) (row : List Value), e = .returned (.slice (some ⟨w.heap.size, 0, none⟩) 0 G) ∧ G ≤ 9223372036854775807 ∧ Below w.heap.size w w' ∧ w.heap.size < w'.heap.size ∧ row.length = G * 7 ∧ CellsAt w' w.heap.size row := by
  obtain ⟨e, he, hsz, _, _, ti, z, hi0, hsz0, hz0, hzs, _, hby⟩ := (ty_ok 33 (.sl 7 true [.v (.int .u8 0), .v (.int .i64 0), .v (.int .i64 0), .v (.int .i64 0), .v (.int .i64 0), .v (.int .i64 0), .v (.int .i64 0)]) rfl).2.2.2
  have hee : e = 32 := by
    have := he.symm.trans Tryz.underlying33
    injection this with this; injection this
  subst hee
  have h48 : n * ti.bytes ≤ 281474976710656 := by
    have : n * ti.bytes ≤ 1000000 * 65536 := Nat.mul_le_mul h1 hby
    omega
  have hrz := fun ty => Lib.run_append_nil_zeros (P := Tryz.prog) w 33 3 ty 32 ti z .i64 .i64 Tryz.underlying33 Tryz.underlying3 hi0 hz0 n h0 (by omega) (by omega) h48
  have hG : n ≤ grownCap w n 0 32 := grownCap_ge w _ _ _
  have hG63 : grownCap w n 0 32 ≤ 9223372036854775807 := by
    have := grownCap_le_maxLen w n 0 32 (by unfold maxLen; omega)
    unfold maxLen at this
    omega
  generalize grownCap w n 0 32 = G at *
  obtain ⟨ROW, hROW⟩ : ∃ ROW : Array Value, ROW = Builtin.zeroCells z.cells n ++ Builtin.zeroCells z.cells (G - n) := ⟨_, rfl⟩
  rw [← hROW] at hrz
  have hRl : ROW.toList.length = G * 7 := by
    rw [hROW]
    simp only [Array.toList_append, List.length_append, Array.length_toList, size_zeroCells, hzs]
    omega
  obtain ⟨W1, hW1⟩ : ∃ W1, W1 = w.drew.alloc (.cells ROW 32) := ⟨_, rfl⟩
  rw [← hW1] at hrz
  have c0 : CellsAt W1 w.heap.size ROW.toList := ⟨32, by rw [hW1]; exact (heap_alloc_new w.drew _)⟩
  have hB1 : Below w.heap.size w W1 := by rw [hW1]; exact below_drew_alloc w _
  have hs1 : w.heap.size < W1.heap.size := by rw [hW1]; simp
  have FIN : Hid (Below w.heap.size w W1 ∧ w.heap.size < W1.heap.size ∧ CellsAt W1 w.heap.size ROW.toList) := Lib.hid ⟨hB1, hs1, c0⟩
  have hw1 : IntKind.i64.wrap (n : Int) = (n : Int) := by rw [IntKind.wrap_i64]; omega
  have hp : (0 : Int) < (n : Int) := by omega
  have hn : ¬ ((n : Int) < 0) := by omega
  have mixed : Tryz.prog.follows .mixedOrders = true := by kernel_rfl
  clear hROW hW1 hB1 hs1 c0
  go_enter Tryz.func124, Tryz.ntmps124
  go_wp2_with (at_builtin; refine Lib.wpList_append_run _ rfl _ _ _ _ rfl _ _ rfl rfl _ _ (hrz _) ?_)
  go_ret
  exact ⟨G, rfl, hG63, FIN.out.1, FIN.out.2.1, ROW.toList, hRl, FIN.out.2.2⟩
set_option maxHeartbeats 4000000 in
set_option maxRecDepth 100000 in
theorem growAk_run0 (w : World) : Calls Tryz.prog 124 #[.slice none 0 0, .int .i64 0] w fun e w' => e = .returned (.slice none 0 0) ∧ w' = w := by
  have mixed : Tryz.prog.follows .mixedOrders = true := by kernel_rfl
  go_enter Tryz.func124, Tryz.ntmps124
  go_wp2
  go_ret
  exact ⟨rfl, rfl⟩
theorem growAk_own (n : Nat) (h1 : n ≤ 1000000) : FnOwn Tryz.prog 124 [.one (.v (.slice none 0 0)), .one (i64 n)] (ownL 7 []) := by
  intro w M vs hM hd
  match vs, hd with
  | [v1, v2], hd =>
    have k1 : Rep w M (.v (.slice none 0 0)) v1 := hd.1
    have k2 : Rep w M (.v (.int .i64 n)) v2 := hd.2.1
    cases k1
    cases k2
    rcases Nat.eq_zero_or_pos n with rfl | h0
    · refine ⟨124, Tryz.call124 _ _, (growAk_run0 w).mono ?_⟩
      rintro e w' ⟨rfl, rfl⟩
      exact ⟨_, ⟨false, 0, 0, 0, 0⟩, rfl, Below.refl _ _, rfl, rfl, fun h => absurd h (Nat.lt_irrefl _), ⟨rfl, rfl, Nat.le_refl _, fun _ => ⟨none, rfl, fun h => absurd h (Nat.lt_irrefl _)⟩⟩, ⟨by simp, rfl, fun _ => rfl, rfl, rfl⟩, fun h => by simp [Blk.real] at h⟩
    · refine ⟨124, Tryz.call124 _ _, (growAk_run n w h0 h1).mono ?_⟩
      rintro e w' ⟨G, row, rfl, hG, hB, hs, hl, hc⟩
      exact ⟨_, ⟨false, w.heap.size, G, 0, 0⟩, rfl, hB, rfl, rfl, fun _ => ⟨Nat.le_refl _, hs⟩, ⟨rfl, rfl, Nat.le_refl _, fun _ => ⟨_, rfl, fun _ => rfl⟩⟩, ⟨by simp, rfl, fun _ => rfl, rfl, rfl⟩, fun _ => ⟨row, hc, Nat.zero_le _, hG, hl, [], row, rfl, trivial⟩⟩
abbrev lol (L : List (List (List D))) : D := .list 1 (L.map fun x => [.list 7 x])
theorem lol_get {L : List (List (List D))} {i : Nat} (h : i < L.length) : (L.map fun x => [D.list 7 x])[((i : Nat) : Int).toNat]? = some [.list 7 L[i]] := by
  rw [Int.toNat_natCast, List.getElem?_map, List.getElem?_eq_getElem h]; rfl
theorem flat_succ {α : Type} {L : List (List α)} {i : Nat} (h : i < L.length) : (L.take (i + 1)).flatten = (L.take i).flatten ++ L[i] := by
  rw [List.take_succ_eq_append_getElem h, List.flatten_append]; simp
theorem flat_le {α : Type} (L : List (List α)) (i : Nat) : (L.take i).flatten.length ≤ L.flatten.length := by
  conv => rhs; rw [← List.take_append_drop i L, List.flatten_append, List.length_append]
  omega
set_option maxRecDepth 100000 in
set_option maxHeartbeats 4000000 in
theorem catAk_own (L : List (List (List D))) (h1 : L.flatten.length ≤ 1000000) (h2 : L.length ≤ 1000000) : FnOwn Tryz.prog 87 [.one (lol L)] (ownL 7 L.flatten) := by
  have hL : (L.map fun x => [D.list 7 x]).length = L.length := List.length_map ..
  refine fn_own (by kernel_rfl) (ty_okK [24, 33] [] [] []) Tryz.func87 rfl (fun _ _ => Tryz.call87 _ _) rfl ?_
  intro hw
  clear hw
  repeat' ((conv => whnf); first | (with_reducible first | refine br_t ?_ | refine br_f ?_ | refine za ?_ | refine zg ?_ | refine zo ?_) | rw [hL] | refine zp ?_ | refine zq ?_ | (with_reducible first | refine bc (fun h => ?_) (fun h => ?_) | refine zt ?_ | refine zf ?_ | refine br_i (fun h => ?_) (fun h => ?_)) | refine zg ?_ | refine zi ?_ | refine zb ?_ | refine zl ?_)
  refine loop_J (by kernel_rfl) (ty_okK [24, 33] [] [] []) (σ := Nat) (fun i => [(11, sV (.int .i64 i)), (3, sV (.int .i64 ((L.take i).flatten.length : Nat)))]) (fun _ => []) (fun i => i ≤ L.length) (fun i => L.length - i) 0 (Nat.zero_le _) ?_ ?_
  · (conv => whnf); exact zent
  intro i hi
  rcases Nat.lt_or_ge i L.length with hlt | hge
  · have hel := lol_get hlt
    have e1 := congrArg List.length (flat_succ hlt)
    rw [List.length_append] at e1
    have e2 := flat_le L (i + 1)
    generalize (L.take i).flatten.length = c at *
    obtain ⟨d, hdd⟩ : ∃ d, d = (L.take (i + 1)).flatten.length := ⟨_, rfl⟩
    rw [← hdd] at e1 e2
    have hwr : IntKind.i64.wrap ((c : Int) + (L[i].length : Int)) = (d : Int) := by rw [IntWalk.i64_in _ (by omega)]; omega
    generalize L[i] = x at *
    repeat' ((conv => whnf); first | (with_reducible first | refine br_t ?_ | refine br_f ?_ | refine za ?_ | refine zg ?_ | refine zo ?_) | rw [hL] | rw [hwr] | refine zp ?_ | refine zq ?_ | (with_reducible first | refine bc (fun h => ?_) (fun h => ?_) | refine zt ?_ | refine zf ?_ | refine br_i (fun h => ?_) (fun h => ?_)) | refine zg ?_ | refine zi ?_ | refine zb ?_ | refine zl ?_)
    all_goals conv => whnf
    refine ⟨i + 1, by omega, ?_, by omega⟩
    (conv => whnf); exact zent
  · obtain rfl : i = L.length := by omega
    have HG := growAk_own L.flatten.length h1
    have eF : (L.take L.length).flatten = L.flatten := by rw [List.take_length]
    rw [eF]
    repeat' ((conv => whnf); first | (with_reducible first | refine br_t ?_ | refine br_f ?_ | refine za ?_ | refine zg ?_ | refine zo ?_) | rw [hL] | refine zp ?_ | refine zq ?_ | (with_reducible first | refine bc (fun h => ?_) (fun h => ?_) | refine zt ?_ | refine zf ?_ | refine br_i (fun h => ?_) (fun h => ?_)) | refine zg ?_ | refine zi ?_ | refine zb ?_ | refine zl ?_)
    refine loop_keep [2, 6, 25, 26, 27] ?_
    conv => whnf
    refine loop_J (by kernel_rfl) (ty_okK [24, 33] [] [] []) (σ := Nat) (fun i => [(27, sV (.int .i64 i)), (6, .c (.at (.osl 24 0)))]) (fun i => [(24, .row 7 (L.take i).flatten 0)]) (fun i => i ≤ L.length) (fun i => L.length - i) 0 (Nat.zero_le _) ?_ ?_
    · (conv => whnf); exact zent
    intro i hi
    rcases Nat.lt_or_ge i L.length with hlt | hge
    · have hel := lol_get hlt
      have hs := (flat_succ hlt).symm
      have e1 := congrArg List.length hs
      rw [List.length_append] at e1
      have e2 := flat_le L (i + 1)
      generalize (L.take i).flatten = c at *
      generalize L[i] = x at *
      repeat' ((conv => whnf); first | (with_reducible first | refine br_t ?_ | refine br_f ?_ | refine za ?_ | refine zg ?_ | refine zo ?_) | rw [hL] | refine zp ?_ | refine zq ?_ | (with_reducible first | refine bc (fun h => ?_) (fun h => ?_) | refine zt ?_ | refine zf ?_ | refine br_i (fun h => ?_) (fun h => ?_)) | refine zg ?_ | refine zi ?_ | refine zb ?_ | refine zl ?_)
      all_goals conv => whnf
      refine ⟨i + 1, by omega, ?_, by omega⟩
      (conv => whnf); refine ⟨by repeat' (first | with_reducible exact zE0 | with_reducible refine zE1 ?_ ?_ | rfl | assumption | ((exact congrArg (fun x => some (Blk.row 7 x 0)) hs)) | exact zi1 | exact zb1), by repeat' (first | with_reducible exact zH0 | with_reducible refine zH1 ?_ ?_ | rfl | assumption | ((exact congrArg (fun x => some (Blk.row 7 x 0)) hs))), rfl⟩
    · obtain rfl : i = L.length := by omega
      rw [List.take_length]
      repeat' ((conv => whnf); first | (with_reducible first | refine br_t ?_ | refine br_f ?_ | refine za ?_ | refine zg ?_ | refine zo ?_) | rw [hL] | refine zp ?_ | refine zq ?_ | (with_reducible first | refine bc (fun h => ?_) (fun h => ?_) | refine zt ?_ | refine zf ?_ | refine br_i (fun h => ?_) (fun h => ?_)) | refine zg ?_ | refine zi ?_ | refine zb ?_ | refine zl ?_)
      all_goals conv => whnf
      exact .inl ⟨24, 0, _, rfl, rfl, rfl⟩
end Go.Proofs.YtepmgbmnghiaoaaGreat

namespace Go.Proofs.YtepmgbmnghiaoaaGreat
open Go Go.RowKit Go.Sort Sx
theorem drop1 {α β : Type} {f : α → β} {p : α} {a : List α} {n : Nat} {z : Int} (hz : z.toNat = 1) (hn : a.length + 1 ≤ n) : (((p :: a).map f).take n).drop z.toNat = a.map f := by
  rw [hz, List.take_of_length_le (by simpa using hn)]; rfl
set_option maxRecDepth 100000 in
set_option maxHeartbeats 4000000 in
theorem dmerge_fn (m n : Md) (h1 : m.l.length ≤ 1000) (h2 : n.l.length ≤ 1000) : FnOK Tryz.prog 84 [m.dc, n.dc] (.c (.one (uns (mrg m.l n.l)))) := by
  generalize hX : mrg m.l n.l = X
  refine fn_ok (by kernel_rfl) (ty_okK [5, 76, 105, 40] [] [] []) Tryz.func84 rfl (fun _ _ => Tryz.call84 _ _) rfl ?_
  intro hw
  clear hw
  repeat' ((conv => whnf); first | (with_reducible first | refine br_t ?_ | refine br_f ?_ | refine za ?_ | refine zg ?_ | refine zo ?_) | refine zp ?_ | refine zq ?_ | (with_reducible first | refine bc (fun h => ?_) (fun h => ?_) | refine zt ?_ | refine zf ?_ | refine br_i (fun h => ?_) (fun h => ?_) | refine xi (pv_bool fun _ => nev30 _ _ _ _ _ _ _ _ _) ?_) | refine zg ?_ | refine zi ?_ | refine zb ?_ | refine zl ?_)
  refine loop_J (by kernel_rfl) (ty_okK [5, 76, 105, 40] [] [] []) (σ := List Pt × List Pt × List Un) (fun s => [(6, sD (.list 3 (s.1.map Pt.c))), (7, sD (.list 3 (s.2.1.map Pt.c))), (5, .c (.at (.osl 5 0)))]) (fun s => [(5, .row 5 (s.2.2.map Un.c) 0)])
    (fun s => s.1.length + s.2.1.length + s.2.2.length ≤ 2000 ∧ s.2.2 ++ mrg s.1 s.2.1 = X) (fun s => s.1.length + s.2.1.length) (m.l, n.l, []) ⟨by simp; omega, hX⟩ ?_ ?_
  · (conv => whnf); exact zent
  rintro ⟨a, b, o⟩ ⟨hb, hI⟩
  dsimp only at hb hI
  have hol : (o.map Un.c).length = o.length := List.length_map ..
  have lz : (([] : List Pt).map Pt.c).length = 0 := rfl
  rcases a with _ | ⟨p, a⟩
  · rcases b with _ | ⟨q, b⟩
    · rw [mrg_nn, List.append_nil] at hI
      subst hI
      repeat' ((conv => whnf); first | (with_reducible first | refine br_t ?_ | refine br_f ?_ | refine za ?_ | refine zg ?_ | refine zo ?_) | rw [lz] | refine zp ?_ | refine zq ?_ | (with_reducible first | refine bc (fun h => ?_) (fun h => ?_) | refine zt ?_ | refine zf ?_ | refine br_i (fun h => ?_) (fun h => ?_) | refine xi (pv_bool fun _ => nev30 _ _ _ _ _ _ _ _ _) ?_) | refine zg ?_ | refine zi ?_ | refine zb ?_ | refine zl ?_)
      all_goals conv => whnf
      all_goals rfl
    · have gb : ((q :: b).map Pt.c)[(0 : Int).toNat]? = some [i64 q.id, i64 q.a, i64 q.b] := rfl
      have lb : ((q :: b).map Pt.c).length = b.length + 1 := by simp
      have hdb := drop1 (f := Pt.c) (p := q) (a := b) (n := ((b.length + 1 : Nat) : Int).toNat) (z := 1) rfl (by omega)
      simp only [List.length_cons, List.length_nil] at hb
      rw [mrg_b (.inl rfl)] at hI
      have hs : o.map Un.c ++ [[u8 3, i64 q.id, i64 q.id, i64 q.a, i64 q.b]] = (o ++ [(⟨3, q.id, q⟩ : Un)]).map Un.c := by rw [List.map_append]; rfl
      repeat' ((conv => whnf); first | (with_reducible first | refine br_t ?_ | refine br_f ?_ | refine za ?_ | refine zg ?_ | refine zo ?_) | rw [lb] | rw [lz] | rw [hol] | refine zp ?_ | refine zq ?_ | (with_reducible first | refine bc (fun h => ?_) (fun h => ?_) | refine zt ?_ | refine zf ?_ | refine br_i (fun h => ?_) (fun h => ?_) | refine xi (pv_bool fun _ => nev30 _ _ _ _ _ _ _ _ _) ?_) | refine zg ?_ | refine zi ?_ | refine zb ?_ | refine zl ?_)
      all_goals conv => whnf
      refine ⟨([], b, o ++ [(⟨3, q.id, q⟩ : Un)]), ⟨by simp; omega, by rw [List.append_assoc]; exact hI⟩, ?_, by simp only [List.length_cons, List.length_nil]; omega⟩
      (conv => whnf); refine ⟨by repeat' (first | with_reducible exact zE0 | with_reducible refine zE1 ?_ ?_ | rfl | assumption | (first | exact congrArg (fun x => some (Blk.row 5 x 0)) hs | exact congrArg (fun x => some (sD (.list 3 x))) hda | exact congrArg (fun x => some (sD (.list 3 x))) hdb) | exact zi1 | exact zb1), by repeat' (first | with_reducible exact zH0 | with_reducible refine zH1 ?_ ?_ | rfl | assumption | (first | exact congrArg (fun x => some (Blk.row 5 x 0)) hs | exact congrArg (fun x => some (sD (.list 3 x))) hda | exact congrArg (fun x => some (sD (.list 3 x))) hdb)), rfl⟩
  · have ga : ((p :: a).map Pt.c)[(0 : Int).toNat]? = some [i64 p.id, i64 p.a, i64 p.b] := rfl
    have la : ((p :: a).map Pt.c).length = a.length + 1 := by simp
    have hda := drop1 (f := Pt.c) (p := p) (a := a) (n := ((a.length + 1 : Nat) : Int).toNat) (z := 1) rfl (by omega)
    rcases b with _ | ⟨q, b⟩
    · simp only [List.length_cons, List.length_nil] at hb
      rw [mrg_a (.inl rfl)] at hI
      have hs : o.map Un.c ++ [[u8 2, i64 p.id, i64 p.id, i64 p.a, i64 p.b]] = (o ++ [(⟨2, p.id, p⟩ : Un)]).map Un.c := by rw [List.map_append]; rfl
      repeat' ((conv => whnf); first | (with_reducible first | refine br_t ?_ | refine br_f ?_ | refine za ?_ | refine zg ?_ | refine zo ?_) | rw [la] | rw [lz] | rw [hol] | refine zp ?_ | refine zq ?_ | (with_reducible first | refine bc (fun h => ?_) (fun h => ?_) | refine zt ?_ | refine zf ?_ | refine br_i (fun h => ?_) (fun h => ?_) | refine xi (pv_bool fun _ => nev30 _ _ _ _ _ _ _ _ _) ?_) | refine zg ?_ | refine zi ?_ | refine zb ?_ | refine zl ?_)
      all_goals conv => whnf
      refine ⟨(a, [], o ++ [(⟨2, p.id, p⟩ : Un)]), ⟨by simp; omega, by rw [List.append_assoc]; exact hI⟩, ?_, by simp only [List.length_cons, List.length_nil]; omega⟩
      (conv => whnf); refine ⟨by repeat' (first | with_reducible exact zE0 | with_reducible refine zE1 ?_ ?_ | rfl | assumption | (first | exact congrArg (fun x => some (Blk.row 5 x 0)) hs | exact congrArg (fun x => some (sD (.list 3 x))) hda | exact congrArg (fun x => some (sD (.list 3 x))) hdb) | exact zi1 | exact zb1), by repeat' (first | with_reducible exact zH0 | with_reducible refine zH1 ?_ ?_ | rfl | assumption | (first | exact congrArg (fun x => some (Blk.row 5 x 0)) hs | exact congrArg (fun x => some (sD (.list 3 x))) hda | exact congrArg (fun x => some (sD (.list 3 x))) hdb)), rfl⟩
    · have gb : ((q :: b).map Pt.c)[(0 : Int).toNat]? = some [i64 q.id, i64 q.a, i64 q.b] := rfl
      have lb : ((q :: b).map Pt.c).length = b.length + 1 := by simp
      have hdb := drop1 (f := Pt.c) (p := q) (a := b) (n := ((b.length + 1 : Nat) : Int).toNat) (z := 1) rfl (by omega)
      simp only [List.length_cons] at hb
      rcases Int.lt_trichotomy p.id q.id with h | h | h
      · rw [mrg_a (.inr ⟨q, b, rfl, h⟩)] at hI
        have hs : o.map Un.c ++ [[u8 2, i64 p.id, i64 p.id, i64 p.a, i64 p.b]] = (o ++ [(⟨2, p.id, p⟩ : Un)]).map Un.c := by rw [List.map_append]; rfl
        repeat' ((conv => whnf); first | (with_reducible first | refine br_t ?_ | refine br_f ?_ | refine za ?_ | refine zg ?_ | refine zo ?_) | rw [la] | rw [lb] | rw [hol] | refine zp ?_ | refine zq ?_ | (with_reducible first | refine bc (fun h => ?_) (fun h => ?_) | refine zt ?_ | refine zf ?_ | refine br_i (fun h => ?_) (fun h => ?_) | refine xi (pv_bool fun _ => nev30 _ _ _ _ _ _ _ _ _) ?_) | refine zg ?_ | refine zi ?_ | refine zb ?_ | refine zl ?_)
        all_goals conv => whnf
        refine ⟨(a, q :: b, o ++ [(⟨2, p.id, p⟩ : Un)]), ⟨by simp; omega, by rw [List.append_assoc]; exact hI⟩, ?_, by simp only [List.length_cons, List.length_nil]; omega⟩
        (conv => whnf); refine ⟨by repeat' (first | with_reducible exact zE0 | with_reducible refine zE1 ?_ ?_ | rfl | assumption | (first | exact congrArg (fun x => some (Blk.row 5 x 0)) hs | exact congrArg (fun x => some (sD (.list 3 x))) hda | exact congrArg (fun x => some (sD (.list 3 x))) hdb) | exact zi1 | exact zb1), by repeat' (first | with_reducible exact zH0 | with_reducible refine zH1 ?_ ?_ | rfl | assumption | (first | exact congrArg (fun x => some (Blk.row 5 x 0)) hs | exact congrArg (fun x => some (sD (.list 3 x))) hda | exact congrArg (fun x => some (sD (.list 3 x))) hdb)), rfl⟩
      · by_cases c : p = q
        · subst c
          rw [mrg_e] at hI
          repeat' ((conv => whnf); first | (with_reducible first | refine br_t ?_ | refine br_f ?_ | refine za ?_ | refine zg ?_ | refine zo ?_) | rw [la] | rw [lb] | rw [hol] | refine zp ?_ | refine zq ?_ | (with_reducible first | refine bc (fun h => ?_) (fun h => ?_) | refine zt ?_ | refine zf ?_ | refine br_i (fun h => ?_) (fun h => ?_) | refine xi (pv_bool fun _ => nev30 _ _ _ _ _ _ _ _ _) ?_) | refine zg ?_ | refine zi ?_ | refine zb ?_ | refine zl ?_)
          all_goals conv => whnf
          refine ⟨(a, b, o), ⟨by simp; omega, hI⟩, ?_, by simp only [List.length_cons]; omega⟩
          (conv => whnf); refine ⟨by repeat' (first | with_reducible exact zE0 | with_reducible refine zE1 ?_ ?_ | rfl | assumption | (first | exact congrArg (fun x => some (sD (.list 3 x))) hda | exact congrArg (fun x => some (sD (.list 3 x))) hdb) | exact zi1 | exact zb1), by repeat' (first | with_reducible exact zH0 | with_reducible refine zH1 ?_ ?_ | rfl | assumption | (first | exact congrArg (fun x => some (sD (.list 3 x))) hda | exact congrArg (fun x => some (sD (.list 3 x))) hdb)), rfl⟩
        · have hne : ¬ (p.id = q.id ∧ p.a = q.a ∧ p.b = q.b) := fun e => c (Pt.eq_iff.2 e)
          rw [mrg_n h c] at hI
          have hs : o.map Un.c ++ [[u8 4, i64 p.id, i64 q.id, i64 q.a, i64 q.b]] = (o ++ [(⟨4, p.id, q⟩ : Un)]).map Un.c := by rw [List.map_append]; rfl
          repeat' ((conv => whnf); first | (with_reducible first | refine br_t ?_ | refine br_f ?_ | refine za ?_ | refine zg ?_ | refine zo ?_) | rw [la] | rw [lb] | rw [hol] | refine zp ?_ | refine zq ?_ | (with_reducible first | refine bc (fun h => ?_) (fun h => ?_) | refine zt ?_ | refine zf ?_ | refine br_i (fun h => ?_) (fun h => ?_) | refine xi (pv_bool fun _ => nev30 _ _ _ _ _ _ _ _ _) ?_) | refine zg ?_ | refine zi ?_ | refine zb ?_ | refine zl ?_)
          all_goals conv => whnf
          refine ⟨(a, b, o ++ [(⟨4, p.id, q⟩ : Un)]), ⟨by simp; omega, by rw [List.append_assoc]; exact hI⟩, ?_, by simp only [List.length_cons, List.length_nil]; omega⟩
          (conv => whnf); refine ⟨by repeat' (first | with_reducible exact zE0 | with_reducible refine zE1 ?_ ?_ | rfl | assumption | (first | exact congrArg (fun x => some (Blk.row 5 x 0)) hs | exact congrArg (fun x => some (sD (.list 3 x))) hda | exact congrArg (fun x => some (sD (.list 3 x))) hdb) | exact zi1 | exact zb1), by repeat' (first | with_reducible exact zH0 | with_reducible refine zH1 ?_ ?_ | rfl | assumption | (first | exact congrArg (fun x => some (Blk.row 5 x 0)) hs | exact congrArg (fun x => some (sD (.list 3 x))) hda | exact congrArg (fun x => some (sD (.list 3 x))) hdb)), rfl⟩
      · rw [mrg_b (.inr ⟨p, a, rfl, h⟩)] at hI
        have hs : o.map Un.c ++ [[u8 3, i64 q.id, i64 q.id, i64 q.a, i64 q.b]] = (o ++ [(⟨3, q.id, q⟩ : Un)]).map Un.c := by rw [List.map_append]; rfl
        repeat' ((conv => whnf); first | (with_reducible first | refine br_t ?_ | refine br_f ?_ | refine za ?_ | refine zg ?_ | refine zo ?_) | rw [la] | rw [lb] | rw [hol] | refine zp ?_ | refine zq ?_ | (with_reducible first | refine bc (fun h => ?_) (fun h => ?_) | refine zt ?_ | refine zf ?_ | refine br_i (fun h => ?_) (fun h => ?_) | refine xi (pv_bool fun _ => nev30 _ _ _ _ _ _ _ _ _) ?_) | refine zg ?_ | refine zi ?_ | refine zb ?_ | refine zl ?_)
        all_goals conv => whnf
        refine ⟨(p :: a, b, o ++ [(⟨3, q.id, q⟩ : Un)]), ⟨by simp; omega, by rw [List.append_assoc]; exact hI⟩, ?_, by simp only [List.length_cons, List.length_nil]; omega⟩
        (conv => whnf); refine ⟨by repeat' (first | with_reducible exact zE0 | with_reducible refine zE1 ?_ ?_ | rfl | assumption | (first | exact congrArg (fun x => some (Blk.row 5 x 0)) hs | exact congrArg (fun x => some (sD (.list 3 x))) hda | exact congrArg (fun x => some (sD (.list 3 x))) hdb) | exact zi1 | exact zb1), by repeat' (first | with_reducible exact zH0 | with_reducible refine zH1 ?_ ?_ | rfl | assumption | (first | exact congrArg (fun x => some (Blk.row 5 x 0)) hs | exact congrArg (fun x => some (sD (.list 3 x))) hda | exact congrArg (fun x => some (sD (.list 3 x))) hdb)), rfl⟩
end Go.Proofs.YtepmgbmnghiaoaaGreat
