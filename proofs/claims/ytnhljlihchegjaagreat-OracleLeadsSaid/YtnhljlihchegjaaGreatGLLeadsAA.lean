import Derived.Test.YtnhljlihchegjaaGreatGbBB
import Derived.Test.YtnhljlihchegjaaGreatGbAZ
import Derived.Test.YtnhljlihchegjaaGreatGbAJ
import Derived.Test.YtnhljlihchegjaaGreatRows
import Derived.Test.YtnhljlihchegjaaGreatGbAB
import Derived.Test.YtnhljlihchegjaaGreatGbAY
set_option linter.all false
/- The closest pair: the least distance, and the first pair with it. No program is named. -/
namespace Go.Proofs.YtnhljlihchegjaaGreat
open Go.RowKit Go.Sort Sx
/-- (a, b) comes ahead of (c, d) -/
abbrev lexb (a b c d : Nat) : Prop := a < c ∨ a = c ∧ b < d
def dq (l : List Pt) (n m : Int) (a b : Nat) : Rat := qv (dst (l[a]?.getD default) (l[b]?.getD default) n m).1 (dst (l[a]?.getD default) (l[b]?.getD default) n m).2
/-- the best of the pairs ahead of (A, B) -/
structure CI (l : List Pt) (n m : Int) (A B : Nat) (s : CSt) : Prop where
  none : s.2.2.2 = 0 → ∀ a b, a < b → b < l.length → ¬ lexb a b A B
  some : s.2.2.2 ≠ 0 → s.1 < s.2.1 ∧ s.2.1 < l.length ∧ lexb s.1 s.2.1 A B ∧ (s.2.2.1, s.2.2.2) = dst (l[s.1]?.getD default) (l[s.2.1]?.getD default) n m ∧
    ∀ a b, a < b → b < l.length → lexb a b A B → dq l n m s.1 s.2.1 ≤ dq l n m a b ∧ (lexb a b s.1 s.2.1 → dq l n m s.1 s.2.1 < dq l n m a b)
theorem dst_chk {l : List Pt} {n m : Int} (hl : ∀ p ∈ l, p.chk = 0) (ht : askd n m = 0) {a b : Nat} (ha : a < l.length) (hb : b < l.length) :
    chk (dst (l[a]?.getD default) (l[b]?.getD default) n m).1 (dst (l[a]?.getD default) (l[b]?.getD default) n m).2 = 0 ∧ 1 ≤ (dst (l[a]?.getD default) (l[b]?.getD default) n m).2 := by
  rw [List.getElem?_eq_getElem ha, List.getElem?_eq_getElem hb]
  obtain ⟨x, _, _, d1, d2, _⟩ := dst_ok (hl _ (List.getElem_mem ha)) (hl _ (List.getElem_mem hb)) ht
  exact ⟨d1, d2⟩
theorem CI.upd {l : List Pt} {n m : Int} (hl : ∀ p ∈ l, p.chk = 0) (ht : askd n m = 0) {A B : Nat} {s : CSt} (h : CI l n m A B s) (hab : A < B) (hb : B < l.length) :
    CI l n m A (B + 1) (cupd s A B (dst (l[A]?.getD default) (l[B]?.getD default) n m)) := by
  obtain ⟨d1, d2⟩ := dst_chk hl ht (show A < l.length by omega) hb
  unfold cupd
  by_cases h0 : s.2.2.2 = 0
  · rw [if_pos (.inl h0)]
    refine ⟨fun h => by dsimp only at h; omega, fun _ => ⟨hab, hb, .inr ⟨rfl, Nat.lt_succ_self _⟩, rfl, fun a b hab' hb' hlx => ?_⟩⟩
    have := h.none h0 a b hab' hb'
    have e : a = A ∧ b = B := by unfold lexb at *; omega
    obtain ⟨rfl, rfl⟩ := e
    exact ⟨Rat.le_refl, fun h => by dsimp only [lexb] at h; omega⟩
  · obtain ⟨k1, k2, k3, k4, k5⟩ := h.some h0
    obtain ⟨e1, e2⟩ := dst_chk hl ht (show s.1 < l.length by omega) k2
    have hq : (dst (l[A]?.getD default) (l[B]?.getD default) n m).1 * s.2.2.2 < s.2.2.1 * (dst (l[A]?.getD default) (l[B]?.getD default) n m).2 ↔ dq l n m A B < dq l n m s.1 s.2.1 := by
      have k6 := congrArg Prod.fst k4
      have k7 := congrArg Prod.snd k4
      dsimp only at k6 k7
      unfold dq
      rw [k6, k7]
      exact (qv_ltM d1 e1).symm
    by_cases hc : dq l n m A B < dq l n m s.1 s.2.1
    · rw [if_pos (.inr (hq.2 hc))]
      refine ⟨fun h => by dsimp only at h; omega, fun _ => ⟨hab, hb, .inr ⟨rfl, Nat.lt_succ_self _⟩, rfl, fun a b hab' hb' hlx => ?_⟩⟩
      dsimp only
      by_cases e : a = A ∧ b = B
      · obtain ⟨rfl, rfl⟩ := e
        exact ⟨Rat.le_refl, fun h => by dsimp only [lexb] at h; omega⟩
      · have := (k5 a b hab' hb' (by unfold lexb at *; omega)).1
        have h3 := Std.lt_of_lt_of_le hc this
        exact ⟨Rat.le_of_lt h3, fun _ => h3⟩
    · rw [if_neg (by rintro (h | h); exact h0 h; exact hc (hq.1 h))]
      refine ⟨fun h => absurd h h0, fun _ => ⟨k1, k2, by unfold lexb at *; omega, k4, fun a b hab' hb' hlx => ?_⟩⟩
      by_cases e : a = A ∧ b = B
      · obtain ⟨rfl, rfl⟩ := e
        exact ⟨Rat.not_lt.1 hc, fun h => by unfold lexb at *; omega⟩
      · exact k5 a b hab' hb' (by unfold lexb at *; omega)
theorem CI.inner {l : List Pt} {n m : Int} (hl : ∀ p ∈ l, p.chk = 0) (ht : askd n m = 0) {A : Nat} (hA : A < l.length) : ∀ {k B : Nat} {s : CSt}, k = l.length - B → A < B → B ≤ l.length → CI l n m A B s → CI l n m (A + 1) (A + 2) (innerC n m l[A] A (l.drop B) B s) := by
  intro k
  induction k with
  | zero =>
    intro B s hk hAB hB h
    rw [innerC_ge (by omega)]
    refine ⟨fun h0 a b hab hb hlx => h.none h0 a b hab hb (by unfold lexb at *; omega), fun h0 => ?_⟩
    obtain ⟨k1, k2, k3, k4, k5⟩ := h.some h0
    exact ⟨k1, k2, by unfold lexb at *; omega, k4, fun a b hab hb hlx => k5 a b hab hb (by unfold lexb at *; omega)⟩
  | succ k ih =>
    intro B s hk hAB hB h
    rw [innerC_lt (by omega)]
    have hu := h.upd hl ht hAB (by omega)
    rw [List.getElem?_eq_getElem hA, List.getElem?_eq_getElem (show B < l.length by omega)] at hu
    exact ih (by omega) (by omega) (by omega) hu
theorem CI.outer {l : List Pt} {n m : Int} (hl : ∀ p ∈ l, p.chk = 0) (ht : askd n m = 0) : ∀ {k A : Nat} {s : CSt}, k = l.length - A → A ≤ l.length → CI l n m A (A + 1) s → CI l n m l.length (l.length + 1) (outerC n m (l.drop A) A s) := by
  intro k
  induction k with
  | zero =>
    intro A s hk hA h
    obtain rfl : A = l.length := by omega
    rw [outerC_ge (by omega)]
    exact h
  | succ k ih =>
    intro A s hk hA h
    rw [outerC_lt (by omega)]
    exact ih (by omega) (by omega) (h.inner hl ht (by omega) rfl (by omega) (by omega))
theorem pairC_CI {l : List Pt} {n m : Int} (hl : ∀ p ∈ l, p.chk = 0) (ht : askd n m = 0) : CI l n m l.length (l.length + 1) (pairC l n m) :=
  CI.outer (A := 0) hl ht rfl (Nat.zero_le _) ⟨fun _ a b hab hb h => by unfold lexb at h; omega, fun h => absurd rfl h⟩
/-- what a law asks of the closest pair -/
theorem pairC_best {l : List Pt} {n m : Int} (hl : ∀ p ∈ l, p.chk = 0) (ht : askd n m = 0) (h2 : 2 ≤ l.length) :
    ∃ I J x y, pairC l n m = (I, J, x, y) ∧ I < J ∧ J < l.length ∧ chk x y = 0 ∧ ∀ a b (ha : a < l.length) (hb : b < l.length), a < b →
      (lexb a b I J → x * (dst l[a] l[b] n m).2 < (dst l[a] l[b] n m).1 * y) ∧ (a = I ∧ b = J → x = (dst l[a] l[b] n m).1 ∧ y = (dst l[a] l[b] n m).2) ∧
      ¬ (dst l[a] l[b] n m).1 * y < x * (dst l[a] l[b] n m).2 := by
  have hc := pairC_CI hl ht
  obtain ⟨g1, g2, g3, g4, g5, _⟩ := pairC_ok hl ht h2
  obtain ⟨k1, k2, k3, k4, k5⟩ := hc.some (by omega)
  generalize pairC l n m = s at *
  obtain ⟨I, J, x, y⟩ := s
  dsimp only at g1 g2 g3 g4 g5 k1 k2 k3 k4 k5
  refine ⟨I, J, x, y, rfl, k1, k2, g1, fun a b ha hb hab => ?_⟩
  obtain ⟨d1, _⟩ := dst_chk hl ht ha hb
  have k6 := congrArg Prod.fst k4
  have k7 := congrArg Prod.snd k4
  dsimp only at k6 k7
  obtain ⟨q1, q2⟩ := k5 a b hab hb (by unfold lexb; omega)
  unfold dq at q1 q2
  rw [← k6, ← k7] at q1 q2
  rw [List.getElem?_eq_getElem ha, List.getElem?_eq_getElem hb] at q1 q2 d1
  refine ⟨fun h => (qv_ltM g1 d1).1 (q2 h), ?_, fun h => ?_⟩
  · rintro ⟨rfl, rfl⟩
    rw [List.getElem?_eq_getElem ha, List.getElem?_eq_getElem hb] at k6 k7
    exact ⟨k6, k7⟩
  · exact absurd ((qv_ltM d1 g1).2 h) (Rat.not_lt.2 q1)
end Go.Proofs.YtnhljlihchegjaaGreat

/- A symbolic walk: ahead of a loop, what no longer matters is left out. No conditions. -/
namespace Go.Proofs.YtnhljlihchegjaaGreat
open Go Go.RowKit
namespace Sx
variable {P : Program} {sz : Nat} {E : Env} {H : Hp}
/-- the slots of a list alone -/
def kpE (ks : List Nat) : List Nat → Env → Env
  | _, [] => []
  | D, (t, x) :: r => match memB t D with
    | true => kpE ks D r
    | false => match memB t ks with | true => (t, x) :: kpE ks (t :: D) r | false => kpE ks (t :: D) r
theorem look_kpE {ks : List Nat} : ∀ {E : Env} {D : List Nat} {t : Nat} {x : SV}, look (kpE ks D E) t = some x → t ∉ D ∧ look E t = some x
  | [], D, t, x, h => by simp [kpE, look] at h
  | (u, y) :: r, D, t, x, h => by
    unfold kpE at h
    rw [look_cons]
    split at h
    · rename_i hm
      obtain ⟨h1, h2⟩ := look_kpE h
      exact ⟨h1, by rw [if_neg (by rintro rfl; exact h1 (memB_iff.1 hm))]; exact h2⟩
    · rename_i hm
      have hm' : u ∉ D := fun h' => by rw [memB_iff.2 h'] at hm; cases hm
      split at h
      · rw [look_cons] at h
        split at h
        · rename_i e
          injection h with h
          subst e h
          exact ⟨hm', by rw [if_pos rfl]⟩
        · obtain ⟨h1, h2⟩ := look_kpE h
          refine ⟨fun h' => h1 (List.mem_cons_of_mem _ h'), ?_⟩
          rename_i e
          rw [if_neg e]; exact h2
      · obtain ⟨h1, h2⟩ := look_kpE h
        exact ⟨fun h' => h1 (List.mem_cons_of_mem _ h'), by rw [if_neg (by rintro rfl; exact h1 (List.mem_cons_self ..))]; exact h2⟩
theorem loop_keep (ks : List Nat) {dm : Bool} {body : Code} {k : Exit → Env → Hp → Prop} (h : frcEnv (kpE ks [] E) fun E1 => LoopP P sz dm body E1 H k) : LoopP P sz dm body E H k :=
  ⟨fun C M0 w0 ρ a w Q hdm R hQ => ((frcEnv_iff _ _).1 h).run C M0 w0 ρ a w Q hdm (R.same (fun t x hx => (look_kpE hx).2) fun _ => rfl) hQ⟩
end Sx
end Go.Proofs.YtnhljlihchegjaaGreat

/- The law OracleLeads answers true. No condition. -/
namespace Go.Proofs.YtnhljlihchegjaaGreat
open Go.RowKit Go.Sort Sx
theorem doV_lead0 {m : Md} (hm : mchk m = 0) (h : m.l.length = 0) : doV m ⟨5, ⟨0, 0, 0⟩, 0, 0, 0⟩ = (m, rpE 42, 0) := by
  unfold doV askV
  rw [if_pos hm, if_pos (by decide), if_neg (by decide), if_neg (by decide), if_neg (by decide), if_neg (by decide), if_pos rfl, if_pos h]
theorem doV_lead {m : Md} (hm : mchk m = 0) (h : m.l.length ≠ 0) : doV m ⟨5, ⟨0, 0, 0⟩, 0, 0, 0⟩ = (m, ⟨0, (ldP m.l m.n m.d).id, 0, (plc (ldP m.l m.n m.d) m.n m.d).1, (plc (ldP m.l m.n m.d) m.n m.d).2, []⟩, 0) := by
  unfold doV
  rw [if_pos hm, askV_lead h rfl]
theorem doV_close0 {m : Md} (hm : mchk m = 0) (h : m.l.length < 2) : doV m ⟨6, ⟨0, 0, 0⟩, 0, 0, 0⟩ = (m, rpE 42, 0) := by
  obtain ⟨g1, g2⟩ := mchk_ok hm
  unfold doV
  rw [if_pos hm, askV_close]
  unfold closV
  rw [if_pos g2, if_pos g1, if_pos h]
  rfl
theorem doV_close {m : Md} (hm : mchk m = 0) (h : 2 ≤ m.l.length) {I J : Nat} {x y : Int} (hp : pairC m.l m.n m.d = (I, J, x, y)) : doV m ⟨6, ⟨0, 0, 0⟩, 0, 0, 0⟩ = (m, ⟨0, (m.l[I]?.getD default).id, (m.l[J]?.getD default).id, x, y, []⟩, 0) := by
  obtain ⟨g1, g2⟩ := mchk_ok hm
  unfold doV
  rw [if_pos hm, askV_close]
  unfold closV
  rw [if_pos g2, if_pos g1, if_neg (by omega), hp]
def fnd (I J a b : Nat) : Bool := decide (lexb I J a b)
theorem fnd_t {I J a b : Nat} (h : lexb I J a b) : fnd I J a b = true := decide_eq_true h
theorem fnd_f {I J a b : Nat} (h : ¬ lexb I J a b) : fnd I J a b = false := decide_eq_false h
theorem fnd_eq {I J a b c d : Nat} (h : lexb I J a b ↔ lexb I J c d) : fnd I J a b = fnd I J c d := decide_eq_decide.2 h
set_option maxRecDepth 100000 in
set_option maxHeartbeats 40000000 in
theorem LLeads_fn (m : Md) : FnOK Tryz.prog 8 [m.dc] (.c (.one (bol true))) := by
  have HA := Lalive_fn
  have H0 := Lfit_fn m
  have ol : (m.l.map Pt.c).length = m.l.length := List.length_map ..
  by_cases hc : (!great m.l && decide (mchk m = 0)) = true
  · rw [hc] at H0
    have hm : mchk m = 0 := by simp at hc; exact hc.2
    obtain ⟨g1, g2⟩ := mchk_ok hm
    obtain ⟨k1, k2, k3⟩ := fchk_ok g2
    obtain ⟨t1, _, _, _, _⟩ := askd_ok g1
    have D1 := oDo_fn m ⟨5, ⟨0, 0, 0⟩, 0, 0, 0⟩
    have D2 := oDo_fn m ⟨6, ⟨0, 0, 0⟩, 0, 0, 0⟩
    clear hc
    by_cases hn0 : m.l.length = 0
    · rw [doV_lead0 hm hn0] at D1
      rw [doV_close0 hm (by omega)] at D2
      simp only [retD, rpE, Rp.dc, mts, List.map_nil, Ak.dc] at D1 D2
      have b1 : ¬ ((!(((42 : Int) == 0) == decide (((m.l.map Pt.c).length : Int) > 0))) = true) := by rw [decide_eq_false (show ¬ ((m.l.map Pt.c).length : Int) > 0 by omega)]; decide
      have b2 : ¬ ((!(((42 : Int) == 0) == decide (((m.l.map Pt.c).length : Int) > 1))) = true) := by rw [decide_eq_false (show ¬ ((m.l.map Pt.c).length : Int) > 1 by omega)]; decide
      refine fn_ok (by kernel_rfl) ty_ok Tryz.func8 rfl (fun _ _ => Tryz.call8 _ _) rfl ?_
      intro hw
      clear hw
      repeat' ((conv => whnf); first | (with_reducible first | refine br_t ?_ | refine br_f ?_ | refine za ?_ | refine zg ?_ | refine zo ?_ | refine zb ?_ | refine zm ?_ | refine zc ?_ | refine ze ?_) | ((with_reducible refine bc_t ?_ ?_); (first | omega | decide)) | ((with_reducible refine bc_f ?_ ?_); (first | omega | decide)) | (with_reducible first | refine bc (fun h => ?_) (fun h => ?_) | refine zt ?_ | refine zf ?_ | refine br_i (fun h => ?_) (fun h => ?_) | refine xi (pv_bool fun _ => nev23 _ _ _ _ _ _ _) ?_) | refine zg ?_ | refine zi ?_)
      all_goals first | contradiction | skip
      all_goals conv => whnf
      all_goals rfl
    · rw [doV_lead hm hn0] at D1
      have E1 := fLeader_fn m.l m.n m.d
      rw [leadV_ok g2 t1, if_neg hn0] at E1
      have hmem := ldP_mem (n := m.n) (m := m.d) hn0
      obtain ⟨p1, p2⟩ := pos_mem k3 hmem
      have E2 := fFind_fn m.l (ldP m.l m.n m.d).id
      unfold findV at E2
      rw [if_pos g2, if_pos p1, p2] at E2
      have E3 := kAt_fn (ldP m.l m.n m.d).id (ldP m.l m.n m.d).a (ldP m.l m.n m.d).b m.n m.d
      rw [(plc_ok (k2 _ hmem) g1).1] at E3
      simp only [ret3] at E3
      simp only [ret2] at E1
      generalize ldP m.l m.n m.d = p at *
      clear p1 p2 hmem
      generalize hu : plc p m.n m.d = u at D1 E3
      obtain ⟨u1, u2⟩ := u
      by_cases hn1 : m.l.length < 2
      · rw [doV_close0 hm hn1] at D2
        simp only [retD, rpE, Rp.dc, mts, List.map_nil, Ak.dc] at D1 D2
        have b1 : ¬ ((!(((0 : Int) == 0) == decide (((m.l.map Pt.c).length : Int) > 0))) = true) := by rw [decide_eq_true (show ((m.l.map Pt.c).length : Int) > 0 by omega)]; decide
        have b2 : ¬ ((!(((42 : Int) == 0) == decide (((m.l.map Pt.c).length : Int) > 1))) = true) := by rw [decide_eq_false (show ¬ ((m.l.map Pt.c).length : Int) > 1 by omega)]; decide
        have b3 : decide (((m.l.map Pt.c).length : Int) < 2) = true := by rw [decide_eq_true_eq]; omega
        refine fn_ok (by kernel_rfl) ty_ok Tryz.func8 rfl (fun _ _ => Tryz.call8 _ _) rfl ?_
        intro hw
        clear hw
        repeat' ((conv => whnf); first | (with_reducible first | refine br_t ?_ | refine br_f ?_ | refine za ?_ | refine zg ?_ | refine zo ?_ | refine zb ?_ | refine zm ?_ | refine zc ?_ | refine ze ?_) | ((with_reducible refine bc_t ?_ ?_); (first | omega | decide)) | ((with_reducible refine bc_f ?_ ?_); (first | omega | decide)) | (with_reducible first | refine bc (fun h => ?_) (fun h => ?_) | refine zt ?_ | refine zf ?_ | refine br_i (fun h => ?_) (fun h => ?_) | refine xi (pv_bool fun _ => nev23 _ _ _ _ _ _ _) ?_) | refine zg ?_ | refine zi ?_)
        all_goals first | contradiction | skip
        refine loop_J (by kernel_rfl) ty_ok (σ := Nat) (fun a => [(17, sV (.int .i64 a)), (16, sV (.bool true))]) (fun _ => []) (fun a => a ≤ m.l.length) (fun a => m.l.length - a) 0 (Nat.zero_le _) ?_ ?_
        · (conv => whnf); refine ⟨by repeat' (first | with_reducible exact zE0 | with_reducible refine zE1 ?_ ?_ | rfl | assumption | ((exact congrArg (fun b => some (sV (.bool b))) b3)) | (refine ent_i ?_; (first | omega | (rw [IntWalk.i64_in _ (by omega)]; omega) | (simp; done))) | (refine ent_b ?_; (first | omega | (rw [IntWalk.i64_in _ (by omega)]; omega) | (simp; done)))), by repeat' (first | with_reducible exact zH0 | with_reducible refine zH1 ?_ ?_ | rfl | assumption | ((exact congrArg (fun b => some (sV (.bool b))) b3))), rfl⟩
        intro a ha
        rcases Nat.lt_or_ge a m.l.length with hlt | hge
        · repeat' ((conv => whnf); first | (with_reducible first | refine br_t ?_ | refine br_f ?_ | refine za ?_ | refine zg ?_ | refine zo ?_ | refine zb ?_ | refine zm ?_ | refine zc ?_ | refine ze ?_) | ((with_reducible refine bc_t ?_ ?_); (first | omega | decide)) | ((with_reducible refine bc_f ?_ ?_); (first | omega | decide)) | (with_reducible first | refine bc (fun h => ?_) (fun h => ?_) | refine zt ?_ | refine zf ?_ | refine br_i (fun h => ?_) (fun h => ?_) | refine xi (pv_bool fun _ => nev23 _ _ _ _ _ _ _) ?_) | refine zg ?_ | refine zi ?_)
          refine loop_J (by kernel_rfl) ty_ok (σ := Unit) (fun _ => [(18, sV (.int .i64 ((a + 1 : Nat) : Int))), (16, sV (.bool true))]) (fun _ => []) (fun _ => True) (fun _ => 0) () trivial ?_ ?_
          · (conv => whnf); exact zent
          intro _ _
          repeat' ((conv => whnf); first | (with_reducible first | refine br_t ?_ | refine br_f ?_ | refine za ?_ | refine zg ?_ | refine zo ?_ | refine zb ?_ | refine zm ?_ | refine zc ?_ | refine ze ?_) | ((with_reducible refine bc_t ?_ ?_); (first | omega | decide)) | ((with_reducible refine bc_f ?_ ?_); (first | omega | decide)) | (with_reducible first | refine bc (fun h => ?_) (fun h => ?_) | refine zt ?_ | refine zf ?_ | refine br_i (fun h => ?_) (fun h => ?_) | refine xi (pv_bool fun _ => nev23 _ _ _ _ _ _ _) ?_) | refine zg ?_ | refine zi ?_)
          all_goals conv => whnf
          refine ⟨a + 1, hlt, ?_, by omega⟩
          (conv => whnf); exact zent
        · repeat' ((conv => whnf); first | (with_reducible first | refine br_t ?_ | refine br_f ?_ | refine za ?_ | refine zg ?_ | refine zo ?_ | refine zb ?_ | refine zm ?_ | refine zc ?_ | refine ze ?_) | ((with_reducible refine bc_t ?_ ?_); (first | omega | decide)) | ((with_reducible refine bc_f ?_ ?_); (first | omega | decide)) | (with_reducible first | refine bc (fun h => ?_) (fun h => ?_) | refine zt ?_ | refine zf ?_ | refine br_i (fun h => ?_) (fun h => ?_) | refine xi (pv_bool fun _ => nev23 _ _ _ _ _ _ _) ?_) | refine zg ?_ | refine zi ?_)
          all_goals conv => whnf
          all_goals rfl
      · obtain ⟨I, J, x, y, hp, hIJ, hJ, hxy, hb⟩ := pairC_best k2 g1 (by omega)
        rw [doV_close hm (by omega) hp] at D2
        rw [List.getElem?_eq_getElem (show I < m.l.length by omega), List.getElem?_eq_getElem hJ] at D2
        simp only [retD, rpE, Rp.dc, mts, List.map_nil, Ak.dc, Option.getD_some] at D1 D2
        have b1 : ¬ ((!(((0 : Int) == 0) == decide (((m.l.map Pt.c).length : Int) > 0))) = true) := by rw [decide_eq_true (show ((m.l.map Pt.c).length : Int) > 0 by omega)]; decide
        have b2 : ¬ ((!(((0 : Int) == 0) == decide (((m.l.map Pt.c).length : Int) > 1))) = true) := by rw [decide_eq_true (show ((m.l.map Pt.c).length : Int) > 1 by omega)]; decide
        have C1 := rcheck_fn x y
        rw [hxy] at C1
        refine fn_ok (by kernel_rfl) ty_ok Tryz.func8 rfl (fun _ _ => Tryz.call8 _ _) rfl ?_
        intro hw
        clear hw
        repeat' ((conv => whnf); first | (with_reducible first | refine br_t ?_ | refine br_f ?_ | refine za ?_ | refine zg ?_ | refine zo ?_ | refine zb ?_ | refine zm ?_ | refine zc ?_ | refine ze ?_) | ((with_reducible refine bc_t ?_ ?_); (first | omega | decide)) | ((with_reducible refine bc_f ?_ ?_); (first | omega | decide)) | (with_reducible first | refine bc (fun h => ?_) (fun h => ?_) | refine zt ?_ | refine zf ?_ | refine br_i (fun h => ?_) (fun h => ?_) | refine xi (pv_bool fun _ => nev23 _ _ _ _ _ _ _) ?_) | refine zg ?_ | refine zi ?_)
        all_goals first | contradiction | skip
        have b3 : decide (((m.l.map Pt.c).length : Int) < 2) = false := by rw [decide_eq_false_iff_not]; omega
        refine loop_keep [1, 2, 7, 9, 16, 17] ?_
        conv => whnf
        refine loop_J (by kernel_rfl) ty_ok (σ := Nat) (fun a => [(17, sV (.int .i64 a)), (16, sV (.bool (fnd I J a 0)))]) (fun _ => []) (fun a => a ≤ m.l.length) (fun a => m.l.length - a) 0 (Nat.zero_le _) ?_ ?_
        · (conv => whnf); refine ⟨by repeat' (first | with_reducible exact zE0 | with_reducible refine zE1 ?_ ?_ | rfl | assumption | ((exact congrArg (fun b => some (sV (.bool b))) (b3.trans (fnd_f (by omega)).symm))) | (refine ent_i ?_; (first | omega | (rw [IntWalk.i64_in _ (by omega)]; omega) | (simp; done))) | (refine ent_b ?_; (first | omega | (rw [IntWalk.i64_in _ (by omega)]; omega) | (simp; done)))), by repeat' (first | with_reducible exact zH0 | with_reducible refine zH1 ?_ ?_ | rfl | assumption | ((exact congrArg (fun b => some (sV (.bool b))) (b3.trans (fnd_f (by omega)).symm)))), rfl⟩
        intro a ha
        rcases Nat.lt_or_ge a m.l.length with hlt | hge
        · repeat' ((conv => whnf); first | (with_reducible first | refine br_t ?_ | refine br_f ?_ | refine za ?_ | refine zg ?_ | refine zo ?_ | refine zb ?_ | refine zm ?_ | refine zc ?_ | refine ze ?_) | ((with_reducible refine bc_t ?_ ?_); (first | omega | decide)) | ((with_reducible refine bc_f ?_ ?_); (first | omega | decide)) | (with_reducible first | refine bc (fun h => ?_) (fun h => ?_) | refine zt ?_ | refine zf ?_ | refine br_i (fun h => ?_) (fun h => ?_) | refine xi (pv_bool fun _ => nev23 _ _ _ _ _ _ _) ?_) | refine zg ?_ | refine zi ?_)
          refine loop_keep [1, 2, 7, 9, 16, 17, 18] ?_
          conv => whnf
          refine loop_J (by kernel_rfl) ty_ok (σ := Nat) (fun b => [(18, sV (.int .i64 b)), (16, sV (.bool (fnd I J a b)))]) (fun _ => []) (fun b => a < b ∧ b ≤ m.l.length) (fun b => m.l.length - b) (a + 1) ⟨Nat.lt_succ_self _, hlt⟩ ?_ ?_
          · (conv => whnf); refine ⟨by repeat' (first | with_reducible exact zE0 | with_reducible refine zE1 ?_ ?_ | rfl | assumption | ((exact congrArg (fun b => some (sV (.bool b))) (fnd_eq (by unfold lexb; omega)))) | (refine ent_i ?_; (first | omega | (rw [IntWalk.i64_in _ (by omega)]; omega) | (simp; done))) | (refine ent_b ?_; (first | omega | (rw [IntWalk.i64_in _ (by omega)]; omega) | (simp; done)))), by repeat' (first | with_reducible exact zH0 | with_reducible refine zH1 ?_ ?_ | rfl | assumption | ((exact congrArg (fun b => some (sV (.bool b))) (fnd_eq (by unfold lexb; omega))))), rfl⟩
          rintro b ⟨hab, hb'⟩
          rcases Nat.lt_or_ge b m.l.length with hblt | hbge
          · have ea := pts_get hlt
            have eb := pts_get hblt
            have F1 := kAt_fn m.l[a].id m.l[a].a m.l[a].b m.n m.d
            rw [(plc_ok (k2 _ (List.getElem_mem hlt)) g1).1] at F1
            have F2 := kAt_fn m.l[b].id m.l[b].a m.l[b].b m.n m.d
            rw [(plc_ok (k2 _ (List.getElem_mem hblt)) g1).1] at F2
            obtain ⟨s, e1, e2, e3, e4, e5, e6, e7⟩ := dst_ok (k2 _ (List.getElem_mem hlt)) (k2 _ (List.getElem_mem hblt)) g1
            have F3 := rsub_fn (plc m.l[a] m.n m.d).1 (plc m.l[a] m.n m.d).2 (plc m.l[b] m.n m.d).1 (plc m.l[b] m.n m.d).2
            rw [e1] at F3
            simp only [ret3] at F1 F2 F3
            clear e1
            obtain ⟨r1, r2, r3⟩ := hb a b hlt hblt hab
            have key : ∀ z w : Int, z = (dst m.l[a] m.l[b] m.n m.d).1 → w = (dst m.l[a] m.l[b] m.n m.d).2 → FnOK Tryz.prog 36 (rat2 x y z w) (ret1 (cmpN (x * (dst m.l[a] m.l[b] m.n m.d).2) ((dst m.l[a] m.l[b] m.n m.d).1 * y))) := by
              rintro z w rfl rfl
              exact rcompare_fn x y _ _
            have hia : I = a → m.l[I].id = m.l[a].id := by rintro rfl; rfl
            have hjb : J = b → m.l[J].id = m.l[b].id := by rintro rfl; rfl
            generalize (dst m.l[a] m.l[b] m.n m.d).1 = X at *
            generalize (dst m.l[a] m.l[b] m.n m.d).2 = Y at *
            generalize plc m.l[a] m.n m.d = pa at *
            generalize plc m.l[b] m.n m.d = pb at *
            obtain ⟨pa1, pa2⟩ := pa
            obtain ⟨pb1, pb2⟩ := pb
            have hc3 : cmpN (x * Y) (X * y) ≤ 0 := by unfold cmpN; (repeat' split) <;> omega
            have hc1 : lexb a b I J → cmpN (x * Y) (X * y) = -1 := fun h => by unfold cmpN; rw [if_pos (r1 h)]
            have hc2 : a = I ∧ b = J → cmpN (x * Y) (X * y) = 0 := fun h => by
              obtain ⟨rfl, rfl⟩ := r2 h
              unfold cmpN; rw [if_neg (by omega), if_neg (by omega)]
            generalize cmpN (x * Y) (X * y) = c at *
            generalize m.l[I].id = idI at *
            generalize m.l[J].id = idJ at *
            generalize m.l[a] = qa at *
            generalize m.l[b] = qb at *
            have hwr : s < 0 → IntKind.i64.wrap (0 - s) = X := fun h => by rw [IntWalk.i64_in _ (by omega)]; omega
            clear r1 r2 r3 hb HA H0 D1 D2 E1 E2 E3 hm g1 g2 k2 k3 t1 hp hu b1 b2 b3 hJ hIJ hxy
            rcases e2 with ⟨e2, e8⟩ | ⟨e2, e8⟩
            · have F4 := key (IntKind.i64.wrap (0 - s)) Y (hwr e2) rfl
              clear key
              rcases (show lexb a b I J ∨ (a = I ∧ b = J) ∨ lexb I J a b by unfold lexb; omega) with h | h | h
              · obtain rfl := hc1 h
                rw [fnd_f (show ¬ lexb I J a b by unfold lexb at *; omega)]
                have hn := fnd_f (show ¬ lexb I J a (b + 1) by unfold lexb at *; omega)
                clear hc1 hc2 hc3 hia hjb
                repeat' ((conv => whnf); first | (with_reducible first | refine br_t ?_ | refine br_f ?_ | refine za ?_ | refine zg ?_ | refine zo ?_ | refine zb ?_ | refine zm ?_ | refine zc ?_ | refine ze ?_) | ((with_reducible refine bc_t ?_ ?_); (first | omega | decide)) | ((with_reducible refine bc_f ?_ ?_); (first | omega | decide)) | (with_reducible first | refine bc (fun h => ?_) (fun h => ?_) | refine zt ?_ | refine zf ?_ | refine br_i (fun h => ?_) (fun h => ?_) | refine xi (pv_bool fun _ => nev23 _ _ _ _ _ _ _) ?_) | refine zg ?_ | refine zi ?_)
                all_goals conv => whnf
                refine ⟨b + 1, ⟨by omega, hblt⟩, ?_, by omega⟩
                (conv => whnf); refine ⟨by repeat' (first | with_reducible exact zE0 | with_reducible refine zE1 ?_ ?_ | rfl | assumption | ((exact congrArg (fun b => some (sV (.bool b))) hn.symm)) | (refine ent_i ?_; (first | omega | (rw [IntWalk.i64_in _ (by omega)]; omega) | (simp; done))) | (refine ent_b ?_; (first | omega | (rw [IntWalk.i64_in _ (by omega)]; omega) | (simp; done)))), by repeat' (first | with_reducible exact zH0 | with_reducible refine zH1 ?_ ?_ | rfl | assumption | ((exact congrArg (fun b => some (sV (.bool b))) hn.symm))), rfl⟩
              · obtain rfl := hc2 h
                have h1 := hia h.1.symm
                have h2 := hjb h.2.symm
                rw [fnd_f (show ¬ lexb I J a b by unfold lexb at *; omega)]
                have hn := fnd_t (show lexb I J a (b + 1) by unfold lexb at *; omega)
                clear hc1 hc2 hc3 hia hjb
                repeat' ((conv => whnf); first | (with_reducible first | refine br_t ?_ | refine br_f ?_ | refine za ?_ | refine zg ?_ | refine zo ?_ | refine zb ?_ | refine zm ?_ | refine zc ?_ | refine ze ?_) | ((with_reducible refine bc_t ?_ ?_); (first | omega | decide)) | ((with_reducible refine bc_f ?_ ?_); (first | omega | decide)) | (with_reducible first | refine bc (fun h => ?_) (fun h => ?_) | refine zt ?_ | refine zf ?_ | refine br_i (fun h => ?_) (fun h => ?_) | refine xi (pv_bool fun _ => nev23 _ _ _ _ _ _ _) ?_) | refine zg ?_ | refine zi ?_)
                all_goals conv => whnf
                refine ⟨b + 1, ⟨by omega, hblt⟩, ?_, by omega⟩
                (conv => whnf); refine ⟨by repeat' (first | with_reducible exact zE0 | with_reducible refine zE1 ?_ ?_ | rfl | assumption | ((exact congrArg (fun b => some (sV (.bool b))) hn.symm)) | (refine ent_i ?_; (first | omega | (rw [IntWalk.i64_in _ (by omega)]; omega) | (simp; done))) | (refine ent_b ?_; (first | omega | (rw [IntWalk.i64_in _ (by omega)]; omega) | (simp; done)))), by repeat' (first | with_reducible exact zH0 | with_reducible refine zH1 ?_ ?_ | rfl | assumption | ((exact congrArg (fun b => some (sV (.bool b))) hn.symm))), rfl⟩
              · rw [fnd_t h]
                have hn := fnd_t (show lexb I J a (b + 1) by unfold lexb at *; omega)
                clear hc1 hc2 hia hjb
                repeat' ((conv => whnf); first | (with_reducible first | refine br_t ?_ | refine br_f ?_ | refine za ?_ | refine zg ?_ | refine zo ?_ | refine zb ?_ | refine zm ?_ | refine zc ?_ | refine ze ?_) | ((with_reducible refine bc_t ?_ ?_); (first | omega | decide)) | ((with_reducible refine bc_f ?_ ?_); (first | omega | decide)) | (with_reducible first | refine bc (fun h => ?_) (fun h => ?_) | refine zt ?_ | refine zf ?_ | refine br_i (fun h => ?_) (fun h => ?_) | refine xi (pv_bool fun _ => nev23 _ _ _ _ _ _ _) ?_) | refine zg ?_ | refine zi ?_)
                all_goals conv => whnf
                refine ⟨b + 1, ⟨by omega, hblt⟩, ?_, by omega⟩
                (conv => whnf); refine ⟨by repeat' (first | with_reducible exact zE0 | with_reducible refine zE1 ?_ ?_ | rfl | assumption | ((exact congrArg (fun b => some (sV (.bool b))) hn.symm)) | (refine ent_i ?_; (first | omega | (rw [IntWalk.i64_in _ (by omega)]; omega) | (simp; done))) | (refine ent_b ?_; (first | omega | (rw [IntWalk.i64_in _ (by omega)]; omega) | (simp; done)))), by repeat' (first | with_reducible exact zH0 | with_reducible refine zH1 ?_ ?_ | rfl | assumption | ((exact congrArg (fun b => some (sV (.bool b))) hn.symm))), rfl⟩
            · have F4 := key s Y e8.symm rfl
              clear key
              rcases (show lexb a b I J ∨ (a = I ∧ b = J) ∨ lexb I J a b by unfold lexb; omega) with h | h | h
              · obtain rfl := hc1 h
                rw [fnd_f (show ¬ lexb I J a b by unfold lexb at *; omega)]
                have hn := fnd_f (show ¬ lexb I J a (b + 1) by unfold lexb at *; omega)
                clear hc1 hc2 hc3 hia hjb
                repeat' ((conv => whnf); first | (with_reducible first | refine br_t ?_ | refine br_f ?_ | refine za ?_ | refine zg ?_ | refine zo ?_ | refine zb ?_ | refine zm ?_ | refine zc ?_ | refine ze ?_) | ((with_reducible refine bc_t ?_ ?_); (first | omega | decide)) | ((with_reducible refine bc_f ?_ ?_); (first | omega | decide)) | (with_reducible first | refine bc (fun h => ?_) (fun h => ?_) | refine zt ?_ | refine zf ?_ | refine br_i (fun h => ?_) (fun h => ?_) | refine xi (pv_bool fun _ => nev23 _ _ _ _ _ _ _) ?_) | refine zg ?_ | refine zi ?_)
                all_goals conv => whnf
                refine ⟨b + 1, ⟨by omega, hblt⟩, ?_, by omega⟩
                (conv => whnf); refine ⟨by repeat' (first | with_reducible exact zE0 | with_reducible refine zE1 ?_ ?_ | rfl | assumption | ((exact congrArg (fun b => some (sV (.bool b))) hn.symm)) | (refine ent_i ?_; (first | omega | (rw [IntWalk.i64_in _ (by omega)]; omega) | (simp; done))) | (refine ent_b ?_; (first | omega | (rw [IntWalk.i64_in _ (by omega)]; omega) | (simp; done)))), by repeat' (first | with_reducible exact zH0 | with_reducible refine zH1 ?_ ?_ | rfl | assumption | ((exact congrArg (fun b => some (sV (.bool b))) hn.symm))), rfl⟩
              · obtain rfl := hc2 h
                have h1 := hia h.1.symm
                have h2 := hjb h.2.symm
                rw [fnd_f (show ¬ lexb I J a b by unfold lexb at *; omega)]
                have hn := fnd_t (show lexb I J a (b + 1) by unfold lexb at *; omega)
                clear hc1 hc2 hc3 hia hjb
                repeat' ((conv => whnf); first | (with_reducible first | refine br_t ?_ | refine br_f ?_ | refine za ?_ | refine zg ?_ | refine zo ?_ | refine zb ?_ | refine zm ?_ | refine zc ?_ | refine ze ?_) | ((with_reducible refine bc_t ?_ ?_); (first | omega | decide)) | ((with_reducible refine bc_f ?_ ?_); (first | omega | decide)) | (with_reducible first | refine bc (fun h => ?_) (fun h => ?_) | refine zt ?_ | refine zf ?_ | refine br_i (fun h => ?_) (fun h => ?_) | refine xi (pv_bool fun _ => nev23 _ _ _ _ _ _ _) ?_) | refine zg ?_ | refine zi ?_)
                all_goals conv => whnf
                refine ⟨b + 1, ⟨by omega, hblt⟩, ?_, by omega⟩
                (conv => whnf); refine ⟨by repeat' (first | with_reducible exact zE0 | with_reducible refine zE1 ?_ ?_ | rfl | assumption | ((exact congrArg (fun b => some (sV (.bool b))) hn.symm)) | (refine ent_i ?_; (first | omega | (rw [IntWalk.i64_in _ (by omega)]; omega) | (simp; done))) | (refine ent_b ?_; (first | omega | (rw [IntWalk.i64_in _ (by omega)]; omega) | (simp; done)))), by repeat' (first | with_reducible exact zH0 | with_reducible refine zH1 ?_ ?_ | rfl | assumption | ((exact congrArg (fun b => some (sV (.bool b))) hn.symm))), rfl⟩
              · rw [fnd_t h]
                have hn := fnd_t (show lexb I J a (b + 1) by unfold lexb at *; omega)
                clear hc1 hc2 hia hjb
                repeat' ((conv => whnf); first | (with_reducible first | refine br_t ?_ | refine br_f ?_ | refine za ?_ | refine zg ?_ | refine zo ?_ | refine zb ?_ | refine zm ?_ | refine zc ?_ | refine ze ?_) | ((with_reducible refine bc_t ?_ ?_); (first | omega | decide)) | ((with_reducible refine bc_f ?_ ?_); (first | omega | decide)) | (with_reducible first | refine bc (fun h => ?_) (fun h => ?_) | refine zt ?_ | refine zf ?_ | refine br_i (fun h => ?_) (fun h => ?_) | refine xi (pv_bool fun _ => nev23 _ _ _ _ _ _ _) ?_) | refine zg ?_ | refine zi ?_)
                all_goals conv => whnf
                refine ⟨b + 1, ⟨by omega, hblt⟩, ?_, by omega⟩
                (conv => whnf); refine ⟨by repeat' (first | with_reducible exact zE0 | with_reducible refine zE1 ?_ ?_ | rfl | assumption | ((exact congrArg (fun b => some (sV (.bool b))) hn.symm)) | (refine ent_i ?_; (first | omega | (rw [IntWalk.i64_in _ (by omega)]; omega) | (simp; done))) | (refine ent_b ?_; (first | omega | (rw [IntWalk.i64_in _ (by omega)]; omega) | (simp; done)))), by repeat' (first | with_reducible exact zH0 | with_reducible refine zH1 ?_ ?_ | rfl | assumption | ((exact congrArg (fun b => some (sV (.bool b))) hn.symm))), rfl⟩
          · obtain rfl : b = m.l.length := by omega
            repeat' ((conv => whnf); first | (with_reducible first | refine br_t ?_ | refine br_f ?_ | refine za ?_ | refine zg ?_ | refine zo ?_ | refine zb ?_ | refine zm ?_ | refine zc ?_ | refine ze ?_) | ((with_reducible refine bc_t ?_ ?_); (first | omega | decide)) | ((with_reducible refine bc_f ?_ ?_); (first | omega | decide)) | (with_reducible first | refine bc (fun h => ?_) (fun h => ?_) | refine zt ?_ | refine zf ?_ | refine br_i (fun h => ?_) (fun h => ?_) | refine xi (pv_bool fun _ => nev23 _ _ _ _ _ _ _) ?_) | refine zg ?_ | refine zi ?_)
            all_goals conv => whnf
            refine ⟨a + 1, hlt, ?_, by omega⟩
            (conv => whnf); refine ⟨by repeat' (first | with_reducible exact zE0 | with_reducible refine zE1 ?_ ?_ | rfl | assumption | ((exact congrArg (fun b => some (sV (.bool b))) (fnd_eq (by unfold lexb; omega)))) | (refine ent_i ?_; (first | omega | (rw [IntWalk.i64_in _ (by omega)]; omega) | (simp; done))) | (refine ent_b ?_; (first | omega | (rw [IntWalk.i64_in _ (by omega)]; omega) | (simp; done)))), by repeat' (first | with_reducible exact zH0 | with_reducible refine zH1 ?_ ?_ | rfl | assumption | ((exact congrArg (fun b => some (sV (.bool b))) (fnd_eq (by unfold lexb; omega))))), rfl⟩
        · rw [fnd_t (show lexb I J a 0 by unfold lexb; omega)]
          repeat' ((conv => whnf); first | (with_reducible first | refine br_t ?_ | refine br_f ?_ | refine za ?_ | refine zg ?_ | refine zo ?_ | refine zb ?_ | refine zm ?_ | refine zc ?_ | refine ze ?_) | ((with_reducible refine bc_t ?_ ?_); (first | omega | decide)) | ((with_reducible refine bc_f ?_ ?_); (first | omega | decide)) | (with_reducible first | refine bc (fun h => ?_) (fun h => ?_) | refine zt ?_ | refine zf ?_ | refine br_i (fun h => ?_) (fun h => ?_) | refine xi (pv_bool fun _ => nev23 _ _ _ _ _ _ _) ?_) | refine zg ?_ | refine zi ?_)
          all_goals conv => whnf
          all_goals rfl
  · rw [Bool.not_eq_true _ |>.mp hc] at H0
    refine fn_ok (by kernel_rfl) ty_ok Tryz.func8 rfl (fun _ _ => Tryz.call8 _ _) rfl ?_
    intro hw
    clear hw
    repeat' ((conv => whnf); first | (with_reducible first | refine br_t ?_ | refine br_f ?_ | refine za ?_ | refine zg ?_ | refine zo ?_ | refine zb ?_ | refine zm ?_ | refine zc ?_ | refine ze ?_) | ((with_reducible refine bc_t ?_ ?_); (first | omega | decide)) | ((with_reducible refine bc_f ?_ ?_); (first | omega | decide)) | (with_reducible first | refine bc (fun h => ?_) (fun h => ?_) | refine zt ?_ | refine zf ?_ | refine br_i (fun h => ?_) (fun h => ?_) | refine xi (pv_bool fun _ => nev23 _ _ _ _ _ _ _) ?_) | refine zg ?_ | refine zi ?_)
    all_goals conv => whnf
    all_goals rfl
end Go.Proofs.YtnhljlihchegjaaGreat

/- OracleLeads answers true for every model, and leaves its arguments as they are. No condition. -/
namespace Go.Proofs.YtnhljlihchegjaaGreat
open Go.RowKit Go.ChangeShapes Go.WideShapes Go.ChangeAt Sx
theorem oracleLeads_own : ownKnob Tryz.prog.godebug = none := by kernel_rfl
set_option maxRecDepth 100000 in
theorem oracleLeads_lifted (os : Os) (started : os.Started) (H : Type) (enc : TypeId × Value → H) :
    ReturnsInHanded {} Tryz.checked os 8 .any (Rows.oracleLeadsSpec.pre6 enc Tryz.prog Tryz.f8 Rows.oracleLeadsRow.domain false) (Rows.oracleLeadsSpec.post enc Tryz.prog Tryz.f8 false true false false) := by
  refine returnsInHanded_of_change (C := Tryz.checked) oracleLeads_own started (by kernel_rfl) Tryz.func8
    (ChangeSpec.witness6 (enc := enc) (C := Tryz.checked) false ⟨#[], #[.agg #[.int .i64 0, .int .i64 0, .slice none 0 0]], []⟩ 12 (by kernel_rfl) (by kernel_rfl) (by kernel_rfl) (by kernel_rfl)) ?_
  intro W base args ds gs before hval0 hW hcnd _
  have hval : ∀ (j : Nat) t v, Tryz.f8.params[j]? = some t → args[j]? = some v → Value.okWide Tryz.prog W .any base t v := hval0
  have hW' := hW
  obtain ⟨p, q, hA0, hV, rfl, hfz, hnd⟩ := hW
  have hA : DataW.TrodAll enc Tryz.prog W 0 (fun _ => true) true Tryz.f8.params.toList args.toList ds p := hA0
  rw [Tryz.params8] at hA hval
  obtain ⟨v0, vs0, d0, ds0, p0, q0, hargs, rfl, rfl, h0, r0⟩ := trodAll_cons hA
  obtain ⟨rfl, rfl, rfl⟩ := trodAll_nil r0
  obtain rfl : args = #[v0] := by cases args; simp_all
  obtain ⟨e0, hd0, hf0⟩ := arg_data (tyB_ok (s := shModel) (by kernel_rfl)) (hval 0 28 v0 rfl rfl) h0
  obtain ⟨x0, rfl⟩ := fit_model hf0
  refine (law_of_fn (vs := [v0]) (fun _ _ => Tryz.call8 _ _) (LLeads_fn x0) ⟨hd0, trivial⟩).mono fun e W' ⟨he, hb⟩ => ?_
  subst he
  exact ⟨_, rfl, law_post (by kernel_rfl) (by kernel_rfl) rfl Tryz.underlying4 rfl hW' ⟨rfl, rfl, rfl⟩ hb⟩
theorem oracleLeads_over : Rows.oracleLeadsRow.holds Tryz.pinned (OpenSpec.ofChange Rows.oracleLeadsSpec) :=
  OpenClaim.holds_of_wide 8 Tryz.f8 rfl rfl rfl rfl rfl rfl rfl ⟨rfl, rfl, rfl, rfl, rfl⟩ rfl rfl rfl rfl rfl (by kernel_rfl) Tryz.func8 (by kernel_rfl)
    (of_decide_eq_true (by kernel_rfl)) (by unfold Func.isWrapper; rw [if_neg (of_decide_eq_false (by kernel_rfl))]; exact ⟨rfl, rfl⟩)
    (fun os started H enc _ => oracleLeads_lifted os started H enc)
/-- the statement -/
theorem oracleLeads_proved : Rows.OracleLeadsSaid := oracleLeads_over
#print axioms oracleLeads_proved
end Go.Proofs.YtnhljlihchegjaaGreat
