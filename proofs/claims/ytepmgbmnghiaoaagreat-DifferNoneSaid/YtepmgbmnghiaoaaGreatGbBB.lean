import Derived.Test.YtepmgbmnghiaoaaGreatGbBA
import Derived.Test.YtepmgbmnghiaoaaGreatGbAZ
import Derived.Test.YtepmgbmnghiaoaaGreatGbAK
import Derived.Test.YtepmgbmnghiaoaaGreatGbAV
import Derived.Lib.AppendZeros
set_option linter.all false
namespace Go.Proofs.YtepmgbmnghiaoaaGreat
open Go.RowKit Go.Sort Sx
theorem incr_uq {l : List Pt} (hs : incr l = true) {p q : Pt} (hp : p ∈ l) (hq : q ∈ l) (e : p.id = q.id) : p = q := by
  have h1 := (pos_mem hs hp).2
  have h2 := (pos_mem hs hq).2
  rw [e] at h1
  exact h1.symm.trans h2
theorem incr_nd {l : List Pt} (hs : incr l = true) : l.Nodup := by
  refine (incr_pw.1 hs).imp ?_
  intro p q h e
  subst e; omega
theorem has_mem {l : List Pt} {id : Int} : has l id = true ↔ ∃ p ∈ l, p.id = id := by
  unfold has
  rw [List.any_eq_true]
  simp
def MU (a b : List Pt) (u : Un) : Prop := u.p.id = u.id ∧ (u.k = 2 ∧ u.p ∈ a ∧ (∀ q ∈ b, q.id ≠ u.id) ∨ u.k = 3 ∧ u.p ∈ b ∧ (∀ p ∈ a, p.id ≠ u.id) ∨ u.k = 4 ∧ u.p ∈ b ∧ u.p ∉ a ∧ ∃ p ∈ a, p.id = u.id)
theorem mrg_ids : ∀ (a b : List Pt), ∀ u ∈ mrg a b, (∃ p ∈ a, p.id = u.id) ∨ ∃ p ∈ b, p.id = u.id := by
  intro a b u hu
  obtain ⟨h, e⟩ := mrg_mem a b u hu
  rcases h with h | h
  · exact .inl ⟨u.p, h.2, e⟩
  · exact .inr ⟨u.p, h.2, e⟩
theorem mrg_pw : ∀ (a b : List Pt), incr a = true → incr b = true → (mrg a b).Pairwise fun u v => u.id < v.id := by
  refine mrg_ind ?_ ?_ ?_ ?_
  · intro _ _; rw [mrg_nn]; exact .nil
  · intro p a b hb ih h1 h2
    have hbp : ∀ q ∈ b, p.id < q.id := by
      rcases hb with rfl | ⟨q, c, rfl, h⟩
      · simp
      · intro x hx
        rcases List.mem_cons.1 hx with rfl | hx
        · exact h
        · have := incr_head h2 x hx; omega
    rw [mrg_a hb]
    refine List.pairwise_cons.2 ⟨fun u hu => ?_, ih (incr_tail h1) h2⟩
    rcases mrg_ids a b u hu with ⟨q, hq, e⟩ | ⟨q, hq, e⟩
    · have := incr_head h1 q hq; show p.id < u.id; omega
    · have := hbp q hq; show p.id < u.id; omega
  · intro q a b ha ih h1 h2
    have hap : ∀ p ∈ a, q.id < p.id := by
      rcases ha with rfl | ⟨p, c, rfl, h⟩
      · simp
      · intro x hx
        rcases List.mem_cons.1 hx with rfl | hx
        · exact h
        · have := incr_head h1 x hx; omega
    rw [mrg_b ha]
    refine List.pairwise_cons.2 ⟨fun u hu => ?_, ih h1 (incr_tail h2)⟩
    rcases mrg_ids a b u hu with ⟨p, hp, e⟩ | ⟨p, hp, e⟩
    · have := hap p hp; show q.id < u.id; omega
    · have := incr_head h2 p hp; show q.id < u.id; omega
  · intro p q a b e ih h1 h2
    have key := ih (incr_tail h1) (incr_tail h2)
    by_cases c : p = q
    · subst c; rw [mrg_e]; exact key
    · rw [mrg_n e c]
      refine List.pairwise_cons.2 ⟨fun u hu => ?_, key⟩
      rcases mrg_ids a b u hu with ⟨r, hr, e'⟩ | ⟨r, hr, e'⟩
      · have := incr_head h1 r hr; show p.id < u.id; omega
      · have := incr_head h2 r hr; show p.id < u.id; omega
theorem mrg_iff : ∀ (a b : List Pt), incr a = true → incr b = true → ∀ u, u ∈ mrg a b ↔ MU a b u := by
  refine mrg_ind ?_ ?_ ?_ ?_
  · intro _ _ u; rw [mrg_nn]; unfold MU; simp
  · intro p a b hb ih h1 h2 u
    have hbp : ∀ q ∈ b, p.id < q.id := by
      rcases hb with rfl | ⟨q, c, rfl, h⟩
      · simp
      · intro x hx
        rcases List.mem_cons.1 hx with rfl | hx
        · exact h
        · have := incr_head h2 x hx; omega
    have hap := incr_head h1
    rw [mrg_a hb, List.mem_cons, ih (incr_tail h1) h2 u]
    obtain ⟨k, i, x⟩ := u
    unfold MU
    simp only [Un.mk.injEq, List.mem_cons, forall_eq_or_imp, exists_eq_or_imp, not_or]
    constructor
    · rintro (⟨rfl, rfl, rfl⟩ | ⟨e, h | h | h⟩)
      · exact ⟨rfl, .inl ⟨rfl, .inl rfl, fun q hq => by have := hbp q hq; omega⟩⟩
      · exact ⟨e, .inl ⟨h.1, .inr h.2.1, h.2.2⟩⟩
      · exact ⟨e, .inr (.inl ⟨h.1, h.2.1, by have := hbp x h.2.1; omega, h.2.2⟩)⟩
      · refine ⟨e, .inr (.inr ⟨h.1, h.2.1, ⟨fun e' => ?_, h.2.2.1⟩, .inr h.2.2.2⟩)⟩
        subst e'
        have := hbp x h.2.1; omega
    · rintro ⟨e, h | h | h⟩
      · rcases h.2.1 with e' | h'
        · subst e'; exact .inl ⟨h.1, e.symm, rfl⟩
        · exact .inr ⟨e, .inl ⟨h.1, h', h.2.2⟩⟩
      · exact .inr ⟨e, .inr (.inl ⟨h.1, h.2.1, h.2.2.2⟩)⟩
      · refine .inr ⟨e, .inr (.inr ⟨h.1, h.2.1, h.2.2.1.2, h.2.2.2.resolve_left fun e' => ?_⟩)⟩
        have := hbp x h.2.1; omega
  · intro q a b ha ih h1 h2 u
    have hap : ∀ p ∈ a, q.id < p.id := by
      rcases ha with rfl | ⟨p, c, rfl, h⟩
      · simp
      · intro x hx
        rcases List.mem_cons.1 hx with rfl | hx
        · exact h
        · have := incr_head h1 x hx; omega
    have hbq := incr_head h2
    rw [mrg_b ha, List.mem_cons, ih h1 (incr_tail h2) u]
    obtain ⟨k, i, x⟩ := u
    unfold MU
    simp only [Un.mk.injEq, List.mem_cons, forall_eq_or_imp, exists_eq_or_imp, not_or]
    constructor
    · rintro (⟨rfl, rfl, rfl⟩ | ⟨e, h | h | h⟩)
      · exact ⟨rfl, .inr (.inl ⟨rfl, .inl rfl, fun q hq => by have := hap q hq; omega⟩)⟩
      · exact ⟨e, .inl ⟨h.1, h.2.1, by have := hap x h.2.1; omega, h.2.2⟩⟩
      · exact ⟨e, .inr (.inl ⟨h.1, .inr h.2.1, h.2.2⟩)⟩
      · exact ⟨e, .inr (.inr ⟨h.1, .inr h.2.1, h.2.2.1, h.2.2.2⟩)⟩
    · rintro ⟨e, h | h | h⟩
      · exact .inr ⟨e, .inl ⟨h.1, h.2.1, h.2.2.2⟩⟩
      · rcases h.2.1 with e' | h'
        · subst e'; exact .inl ⟨h.1, e.symm, rfl⟩
        · exact .inr ⟨e, .inr (.inl ⟨h.1, h', h.2.2⟩)⟩
      · rcases h.2.1 with e' | h'
        · subst e'
          obtain ⟨p, hp, ep⟩ := h.2.2.2
          have := hap p hp; omega
        · exact .inr ⟨e, .inr (.inr ⟨h.1, h', h.2.2⟩)⟩
  · intro p q a b e0 ih h1 h2 u
    have hap := incr_head h1
    have hbq := incr_head h2
    have hi := ih (incr_tail h1) (incr_tail h2) u
    obtain ⟨k, i, x⟩ := u
    have key : MU a b ⟨k, i, x⟩ → MU (p :: a) (q :: b) ⟨k, i, x⟩ := by
      unfold MU
      simp only [List.mem_cons, forall_eq_or_imp, exists_eq_or_imp, not_or]
      rintro ⟨e, h | h | h⟩
      · exact ⟨e, .inl ⟨h.1, .inr h.2.1, by have := hap x h.2.1; omega, h.2.2⟩⟩
      · exact ⟨e, .inr (.inl ⟨h.1, .inr h.2.1, by have := hbq x h.2.1; omega, h.2.2⟩)⟩
      · refine ⟨e, .inr (.inr ⟨h.1, .inr h.2.1, ⟨fun e' => ?_, h.2.2.1⟩, .inr h.2.2.2⟩)⟩
        subst e'
        have := hbq x h.2.1; omega
    have back : MU (p :: a) (q :: b) ⟨k, i, x⟩ → (k = 4 ∧ i = p.id ∧ x = q ∧ p ≠ q) ∨ MU a b ⟨k, i, x⟩ := by
      unfold MU
      simp only [List.mem_cons, forall_eq_or_imp, exists_eq_or_imp, not_or]
      rintro ⟨e, h | h | h⟩
      · rcases h.2.1 with e' | h'
        · subst e'; exact absurd e0.symm (by omega)
        · exact .inr ⟨e, .inl ⟨h.1, h', h.2.2.2⟩⟩
      · rcases h.2.1 with e' | h'
        · subst e'; exact absurd e0 (by omega)
        · exact .inr ⟨e, .inr (.inl ⟨h.1, h', h.2.2.2⟩)⟩
      · rcases h.2.1 with e' | h'
        · subst e'
          exact .inl ⟨h.1, (show x.id = i from e).symm.trans e0.symm, rfl, fun e' => h.2.2.1.1 e'.symm⟩
        · refine .inr ⟨e, .inr (.inr ⟨h.1, h', h.2.2.1.2, h.2.2.2.resolve_left fun e' => ?_⟩)⟩
          have := hbq x h'; omega
    by_cases c : p = q
    · subst c
      rw [mrg_e, hi]
      exact ⟨key, fun h => (back h).resolve_left fun h => h.2.2.2 rfl⟩
    · rw [mrg_n e0 c, List.mem_cons, hi]
      constructor
      · rintro (h | h)
        · injection h with e1 e2 e3
          subst e1 e2 e3
          unfold MU
          refine ⟨e0.symm, .inr (.inr ⟨rfl, List.mem_cons_self .., fun hm => ?_, p, List.mem_cons_self .., rfl⟩)⟩
          rcases List.mem_cons.1 hm with e' | hm
          · exact c e'.symm
          · exact absurd e0 (Int.ne_of_lt (hap _ hm))
        · exact key h
      · intro h
        rcases back h with ⟨rfl, rfl, rfl, _⟩ | h
        · exact .inl rfl
        · exact .inr h
def takeA (id : Int) : Ak := ⟨2, ⟨0, 0, 0⟩, id, 0, 0⟩
def chgA (p : Pt) : Ak := ⟨3, p, 0, 0, 0⟩
theorem takes_runs (n d : Int) : ∀ (T : List Int) (l : List Pt), fchk l = 0 → T.Nodup → (∀ id ∈ T, has l id = true) →
    ∃ F, runs ⟨n, d, l⟩ (T.map takeA) = (⟨n, d, F⟩, List.replicate T.length rp0) ∧ fchk F = 0 ∧ ∀ x, x ∈ F ↔ x ∈ l ∧ x.id ∉ T
  | [], l, h, _, _ => ⟨l, rfl, h, by simp⟩
  | id :: T, l, h, hd, hh => by
    have h1 := hh id (List.mem_cons_self ..)
    have hd' := List.nodup_cons.1 hd
    have ht : takeV l id = (without l id, 0) := by unfold takeV; rw [if_pos h, if_pos h1]
    have hask : askV ⟨n, d, l⟩ (takeA id) = (⟨n, d, without l id⟩, rp0) := by
      unfold askV
      rw [if_pos (show formV (takeA id) = true by unfold formV takeA; simp), if_neg (by show ¬ (2 : Int) = 1; decide), if_pos (show (takeA id).k = 2 from rfl)]
      show (if (takeV l id).2 = 0 then _ else _) = _
      rw [ht, if_pos rfl]
      show (_, _) = (_, _)
      rw [show (takeV l (takeA id).id).1 = without l id from congrArg Prod.fst ht]
    have hok : fchk (without l id) = 0 := by have := takeV_ok (l := l) (id := id) (by rw [ht]); rw [ht] at this; exact this
    obtain ⟨F, e, hF, hm⟩ := takes_runs n d T (without l id) hok hd'.2 (fun j hj => by
      obtain ⟨p, hp, e⟩ := has_mem.1 (hh j (List.mem_cons_of_mem _ hj))
      refine has_mem.2 ⟨p, ?_, e⟩
      unfold without
      rw [List.mem_filter]
      refine ⟨hp, decide_eq_true ?_⟩
      rintro rfl
      exact hd'.1 (e ▸ hj))
    refine ⟨F, ?_, hF, fun x => ?_⟩
    · rw [List.map_cons, runs, hask]
      dsimp only
      rw [e]; rfl
    · rw [hm x]
      unfold without
      rw [List.mem_filter, decide_eq_true_eq, List.mem_cons, not_or, and_assoc]
theorem chgs_runs (n d : Int) : ∀ (C : List Pt) (l : List Pt), fchk l = 0 → Dis C → (∀ p ∈ C, has l p.id = true) →
    ∃ F, runs ⟨n, d, l⟩ (C.map chgA) = (⟨n, d, F⟩, List.replicate C.length rp0) ∧ fchk F = 0 ∧ ∀ x, x ∈ F ↔ x ∈ C ∨ x ∈ l ∧ ∀ q ∈ C, q.id ≠ x.id
  | [], l, h, _, _ => ⟨l, rfl, h, by simp⟩
  | p :: C, l, h, hd, hh => by
    have h1 := hh p (List.mem_cons_self ..)
    have hp := hd.ok p (List.mem_cons_self ..)
    have hpw := List.pairwise_cons.1 hd.ne
    obtain ⟨k1, k2, k3⟩ := fchk_ok h
    obtain ⟨hlt, he⟩ := (has_pos k3).1 h1
    have ht : changeV l p = (l.set (pos l p.id) p, 0) := by unfold changeV; rw [if_pos h, if_pos hp, if_pos h1]
    have hask : askV ⟨n, d, l⟩ (chgA p) = (⟨n, d, l.set (pos l p.id) p⟩, rp0) := by
      unfold askV
      rw [if_pos (show formV (chgA p) = true by unfold formV chgA; simp), if_neg (by show ¬ (3 : Int) = 1; decide), if_neg (by show ¬ (3 : Int) = 2; decide), if_pos (show (chgA p).k = 3 from rfl)]
      show (if (changeV l p).2 = 0 then _ else _) = _
      rw [ht, if_pos rfl]
      show (_, _) = (_, _)
      rw [show (changeV l (chgA p).p).1 = l.set (pos l p.id) p from congrArg Prod.fst ht]
    have hok : fchk (l.set (pos l p.id) p) = 0 := by have := changeV_ok (l := l) (p := p) (by rw [ht]); rw [ht] at this; exact this
    have hset : ∀ x, x ∈ l.set (pos l p.id) p ↔ x = p ∨ x ∈ l ∧ p.id ≠ x.id := fun x => by
      constructor
      · intro hx
        obtain ⟨i, hi, rfl⟩ := List.mem_iff_getElem.1 hx
        rw [List.length_set] at hi
        rw [List.getElem_set]
        by_cases c : pos l p.id = i
        · rw [if_pos c]; exact .inl rfl
        · rw [if_neg c]
          refine .inr ⟨List.getElem_mem hi, fun e => ?_⟩
          rcases Nat.lt_trichotomy (pos l p.id) i with g | g | g
          · have := incr_lt k3 i _ hi g; omega
          · exact c g
          · have := incr_lt k3 _ i hlt g; omega
      · rintro (rfl | ⟨hx, hne⟩)
        · exact List.mem_iff_getElem.2 ⟨pos l x.id, by rw [List.length_set]; exact hlt, by rw [List.getElem_set_self]⟩
        · obtain ⟨i, hi, rfl⟩ := List.mem_iff_getElem.1 hx
          refine List.mem_iff_getElem.2 ⟨i, by rw [List.length_set]; exact hi, ?_⟩
          rw [List.getElem_set_ne]
          intro c
          subst c
          exact hne he.symm
    obtain ⟨F, e, hF, hm⟩ := chgs_runs n d C (l.set (pos l p.id) p) hok ⟨fun q hq => hd.ok q (List.mem_cons_of_mem _ hq), hpw.2⟩ (fun q hq => by
      obtain ⟨r, hr, e⟩ := has_mem.1 (hh q (List.mem_cons_of_mem _ hq))
      exact has_mem.2 ⟨r, (hset r).2 (.inr ⟨hr, by rw [e]; exact hpw.1 q hq⟩), e⟩)
    refine ⟨F, ?_, hF, fun x => ?_⟩
    · rw [List.map_cons, runs, hask]
      dsimp only
      rw [e]; rfl
    · rw [hm x, hset x, List.mem_cons, List.forall_mem_cons]
      constructor
      · rintro (h | ⟨rfl | h, g⟩)
        · exact .inl (.inr h)
        · exact .inl (.inl rfl)
        · exact .inr ⟨h.1, h.2, g⟩
      · rintro ((rfl | h) | ⟨h, g, g'⟩)
        · exact .inr ⟨.inl rfl, fun q hq => Ne.symm (hpw.1 q hq)⟩
        · exact .inl h
        · exact .inr ⟨.inr ⟨h, g⟩, g'⟩
theorem runs_cat {m x : Md} {k : Nat} {l r : List Ak} (h : runs m l = (x, List.replicate k rp0)) : runs m (l ++ r) = ((runs x r).1, List.replicate k rp0 ++ (runs x r).2) := by
  rw [runs_append, h]
theorem filter_pw {U : List Un} (h : U.Pairwise fun u v => u.id < v.id) (k : Int) : (U.filter fun u => decide (u.k = k)).Pairwise fun u v => u.id < v.id := h.filter _
theorem leads {m n : Md} (hm : mchk m = 0) (hn : mchk n = 0) (ht : ¬ n.n * m.d < m.n * n.d) :
    ∃ rs, runs m (asksL m n) = (n, rs) ∧ (∀ r ∈ rs, r.e = 0) ∧ rs.length = (asksL m n).length := by
  obtain ⟨g1, g2⟩ := mchk_ok hm
  obtain ⟨q1, q2⟩ := mchk_ok hn
  obtain ⟨k1, k2, k3⟩ := fchk_ok g2
  obtain ⟨j1, j2, j3⟩ := fchk_ok q2
  have hpw := mrg_pw m.l n.l k3 j3
  have hiff := mrg_iff m.l n.l k3 j3
  have hpid : ∀ u ∈ mrg m.l n.l, u.p.id = u.id := fun u hu => ((hiff u).1 hu).1
  obtain ⟨T, hT⟩ : ∃ T, T = ((mrg m.l n.l).filter fun u => decide (u.k = 2)).map (·.id) := ⟨_, rfl⟩
  obtain ⟨C, hC⟩ : ∃ C, C = ((mrg m.l n.l).filter fun u => decide (u.k = 4)).map (·.p) := ⟨_, rfl⟩
  obtain ⟨Q, hQ⟩ : ∃ Q, Q = ((mrg m.l n.l).filter fun u => decide (u.k = 3)).map (·.p) := ⟨_, rfl⟩
  have eT : tkA (mrg m.l n.l) = T.map takeA := by rw [hT, List.map_map]; rfl
  have eC : chA (mrg m.l n.l) = C.map chgA := by rw [hC, List.map_map]; rfl
  have eQ : ptA (mrg m.l n.l) = Q.map putA := by rw [hQ, List.map_map]; rfl
  have mT : ∀ i, i ∈ T ↔ ∃ p ∈ m.l, p.id = i ∧ ∀ q ∈ n.l, q.id ≠ i := fun i => by
    rw [hT, List.mem_map]
    constructor
    · rintro ⟨u, hu, rfl⟩
      obtain ⟨hu, hk⟩ := List.mem_filter.1 hu
      have hk := of_decide_eq_true hk
      obtain ⟨e, h⟩ := (hiff u).1 hu
      rcases h with h | h | h
      · exact ⟨u.p, h.2.1, e, h.2.2⟩
      · omega
      · omega
    · rintro ⟨p, hp, rfl, h⟩
      exact ⟨⟨2, p.id, p⟩, List.mem_filter.2 ⟨(hiff _).2 ⟨rfl, .inl ⟨rfl, hp, h⟩⟩, rfl⟩, rfl⟩
  have mC : ∀ x, x ∈ C ↔ x ∈ n.l ∧ x ∉ m.l ∧ ∃ p ∈ m.l, p.id = x.id := fun x => by
    rw [hC, List.mem_map]
    constructor
    · rintro ⟨u, hu, rfl⟩
      obtain ⟨hu, hk⟩ := List.mem_filter.1 hu
      have hk := of_decide_eq_true hk
      obtain ⟨e, h⟩ := (hiff u).1 hu
      rcases h with h | h | h
      · omega
      · omega
      · rw [e]; exact ⟨h.2.1, h.2.2.1, h.2.2.2⟩
    · rintro ⟨h1, h2, h3⟩
      exact ⟨⟨4, x.id, x⟩, List.mem_filter.2 ⟨(hiff _).2 ⟨rfl, .inr (.inr ⟨rfl, h1, h2, h3⟩)⟩, rfl⟩, rfl⟩
  have mQ : ∀ x, x ∈ Q ↔ x ∈ n.l ∧ ∀ p ∈ m.l, p.id ≠ x.id := fun x => by
    rw [hQ, List.mem_map]
    constructor
    · rintro ⟨u, hu, rfl⟩
      obtain ⟨hu, hk⟩ := List.mem_filter.1 hu
      have hk := of_decide_eq_true hk
      obtain ⟨e, h⟩ := (hiff u).1 hu
      rcases h with h | h | h
      · omega
      · rw [e]; exact ⟨h.2.1, h.2.2⟩
      · omega
    · rintro ⟨h1, h2⟩
      exact ⟨⟨3, x.id, x⟩, List.mem_filter.2 ⟨(hiff _).2 ⟨rfl, .inr (.inl ⟨rfl, h1, h2⟩)⟩, rfl⟩, rfl⟩
  have nT : T.Nodup := by
    rw [hT]
    refine List.pairwise_map.2 ((filter_pw hpw 2).imp ?_)
    intro u v h e; omega
  have dis : ∀ k, (∀ u ∈ (mrg m.l n.l).filter (fun u => decide (u.k = k)), u.p ∈ n.l) → Dis (((mrg m.l n.l).filter fun u => decide (u.k = k)).map (·.p)) := fun k hk => ⟨fun p hp => by
      obtain ⟨u, hu, rfl⟩ := List.mem_map.1 hp
      exact j2 _ (hk u hu), by
      rw [List.pairwise_map]
      refine List.Pairwise.imp_of_mem ?_ (filter_pw hpw k)
      intro u v hu hv h e
      rw [hpid u (List.mem_filter.1 hu).1, hpid v (List.mem_filter.1 hv).1] at e
      omega⟩
  have dC : Dis C := by rw [hC]; exact dis 4 fun u hu => ((mC u.p).1 (by rw [hC]; exact List.mem_map_of_mem hu)).1
  have dQ : Dis Q := by rw [hQ]; exact dis 3 fun u hu => ((mQ u.p).1 (by rw [hQ]; exact List.mem_map_of_mem hu)).1
  clear hT hC hQ dis
  obtain ⟨F1, e1, f1, i1⟩ := takes_runs m.n m.d T m.l g2 nT fun i hi => by
    obtain ⟨p, hp, e, _⟩ := (mT i).1 hi
    exact has_mem.2 ⟨p, hp, e⟩
  obtain ⟨F2, e2, f2, i2⟩ := chgs_runs m.n m.d C F1 f1 dC fun x hx => by
    obtain ⟨h1, h2, p, hp, e⟩ := (mC x).1 hx
    refine has_mem.2 ⟨p, (i1 p).2 ⟨hp, fun hT => ?_⟩, e⟩
    obtain ⟨_, _, _, h⟩ := (mT _).1 hT
    exact h x h1 e.symm
  have hF2 : ∀ x ∈ F2, x ∈ n.l ∧ ∃ p ∈ m.l, p.id = x.id := fun x hx => by
    rcases (i2 x).1 hx with h | ⟨h, h'⟩
    · exact ⟨((mC x).1 h).1, ((mC x).1 h).2.2⟩
    · obtain ⟨g, g'⟩ := (i1 x).1 h
      refine ⟨?_, x, g, rfl⟩
      rw [mT] at g'
      by_cases c : ∃ q ∈ n.l, q.id = x.id
      · obtain ⟨q, hq, e⟩ := c
        by_cases c2 : q ∈ m.l
        · rw [← incr_uq k3 c2 g e]; exact hq
        · exact absurd e (h' q ((mC q).2 ⟨hq, c2, x, g, e.symm⟩))
      · exact absurd ⟨x, g, rfl, fun q hq e => c ⟨q, hq, e⟩⟩ g'
  have hp : (F2 ++ Q).Perm n.l := by
    refine (List.perm_ext_iff_of_nodup ?_ (incr_nd j3)).2 fun x => ?_
    · refine List.nodup_append.2 ⟨incr_nd (fchk_ok f2).2.2, dQ.ne.imp (fun h e => h (by rw [e])), fun a ha b hb e => ?_⟩
      subst e
      obtain ⟨p, hp, e⟩ := (hF2 a ha).2
      exact ((mQ a).1 hb).2 p hp e
    · rw [List.mem_append]
      constructor
      · rintro (h | h)
        · exact (hF2 x h).1
        · exact ((mQ x).1 h).1
      · intro h
        by_cases c : ∃ p ∈ m.l, p.id = x.id
        · refine .inl ((i2 x).2 ?_)
          by_cases c2 : x ∈ m.l
          · refine .inr ⟨(i1 x).2 ⟨c2, fun hT => ?_⟩, fun q hq e => ?_⟩
            · obtain ⟨_, _, _, h'⟩ := (mT _).1 hT
              exact h' x h rfl
            · obtain ⟨h1, h2, _⟩ := (mC q).1 hq
              rw [incr_uq j3 h1 h e] at h2
              exact h2 c2
          · exact .inl ((mC x).2 ⟨h, c2, c⟩)
        · exact .inr ((mQ x).2 ⟨h, fun p hp e => c ⟨p, hp, e⟩⟩)
  obtain ⟨F3, e3, f3, p3⟩ := puts_runs m.n m.d Q F2 f2 dQ (fun p hp q hq e => by
    obtain ⟨r, hr, e'⟩ := (hF2 q hq).2
    exact ((mQ p).1 hp).2 r hr (e'.trans e)) (by have := hp.length_eq; rw [List.length_append] at this; omega)
  obtain rfl : F3 = n.l := incr_uniq (fchk_ok f3).2.2 j3 (p3.trans hp)
  have eM : ∃ rs, runs ⟨m.n, m.d, n.l⟩ (mvA m n) = (n, rs) ∧ (∀ r ∈ rs, r.e = 0) := by
    unfold mvA
    split
    · rename_i h
      refine ⟨[], ?_, by simp⟩
      obtain ⟨n1, n2, n3⟩ := n
      simp only at h
      rw [h.1, h.2]; rfl
    · rename_i h
      have h2 : ¬ n.n * m.d ≤ m.n * n.d := fun h3 => h (by
        have h4 : n.n * m.d = m.n * n.d := by omega
        have c1 := (askd_ok g1).1
        have c2 := (askd_ok q1).1
        have l1 : ¬ qv m.n m.d < qv n.n n.d := fun h => by have := (qv_ltM c1 c2).1 h; omega
        have l2 : ¬ qv n.n n.d < qv m.n m.d := fun h => by have := (qv_ltM c2 c1).1 h; omega
        obtain ⟨e1, e2⟩ := (qv_inj c1 c2).1 (Rat.le_antisymm (Rat.not_lt.1 l2) (Rat.not_lt.1 l1))
        exact ⟨e1, e2⟩)
      have e5 := askV_move (m := ⟨m.n, m.d, n.l⟩) q1 h2
      refine ⟨[(askV ⟨m.n, m.d, n.l⟩ ⟨4, ⟨0, 0, 0⟩, 0, n.n, n.d⟩).2], ?_, fun r hr => ?_⟩
      · simp only [runs]
        rw [e5]
      · rw [List.mem_singleton.1 hr, e5]
  obtain ⟨rs, e4, z4⟩ := eM
  have er : runs m (asksL m n) = (n, List.replicate T.length rp0 ++ (List.replicate C.length rp0 ++ (List.replicate Q.length rp0 ++ rs))) := by
    unfold asksL
    rw [eT, eC, eQ, List.append_assoc, List.append_assoc, runs_cat (m := m) e1, runs_cat e2, runs_cat e3, e4]
  refine ⟨_, er, fun r hr => ?_, ?_⟩
  · simp only [List.mem_append, List.mem_replicate] at hr
    rcases hr with ⟨_, rfl⟩ | ⟨_, rfl⟩ | ⟨_, rfl⟩ | h
    · rfl
    · rfl
    · rfl
    · exact z4 r h
  · have := runs_len m (asksL m n)
    rw [er] at this
    exact this
end Go.Proofs.YtepmgbmnghiaoaaGreat

namespace Go.Proofs.YtepmgbmnghiaoaaGreat
open Go.RowKit Go.Sort Sx
structure Lg where
  s : Md
  al : List Ak
  rs : List Rp
  deriving DecidableEq, Inhabited
abbrev Lg.dc (x : Lg) : DC := .agg [i64 x.s.n, i64 x.s.d, pts x.s.l, aks x.al, rps x.rs]
def wrg : Md → List Ak → List Rp → Option Nat
  | m, a :: l, r :: rs => if (askV m a).2 = r then (wrg (askV m a).1 l rs).map (· + 1) else some 0
  | _, _, _ => none
def wrgI (m : Md) (l : List Ak) (rs : List Rp) : Int × Int := match wrg m l rs with | none => (0, 6) | some i => ((i : Int), 0)
theorem wrg_none : ∀ (m : Md) (l : List Ak) (rs : List Rp), rs.length = l.length → (wrg m l rs = none ↔ (runs m l).2 = rs)
  | m, [], rs, h => by
    obtain rfl := List.eq_nil_of_length_eq_zero h
    exact iff_of_true rfl rfl
  | m, a :: l, [], h => by simp at h
  | m, a :: l, r :: rs, h => by
    rw [wrg, runs]
    by_cases c : (askV m a).2 = r
    · rw [if_pos c, Option.map_eq_none_iff, wrg_none _ l rs (by simpa using h), c]
      simp
    · rw [if_neg c]
      simp [c]
theorem wrg_some : ∀ (m : Md) (l : List Ak) (rs : List Rp) (i : Nat), rs.length = l.length → (wrg m l rs = some i ↔ ∃ (h1 : i < (runs m l).2.length) (h2 : i < rs.length), (runs m l).2[i] ≠ rs[i] ∧ ∀ j (k1 : j < (runs m l).2.length) (k2 : j < rs.length), j < i → (runs m l).2[j] = rs[j])
  | m, [], rs, i, h => by
    obtain rfl := List.eq_nil_of_length_eq_zero h
    simp [wrg, runs]
  | m, a :: l, [], i, h => by simp at h
  | m, a :: l, r :: rs, i, h => by
    rw [wrg]
    have ih := fun i => wrg_some (askV m a).1 l rs i (by simpa using h)
    have er : (runs m (a :: l)).2 = (askV m a).2 :: (runs (askV m a).1 l).2 := rfl
    rw [er]
    by_cases c : (askV m a).2 = r
    · rw [if_pos c, Option.map_eq_some_iff]
      constructor
      · rintro ⟨k, hk, rfl⟩
        obtain ⟨h1, h2, h3, h4⟩ := (ih k).1 hk
        refine ⟨by simpa using h1, by simpa using h2, by simpa using h3, fun j k1 k2 hj => ?_⟩
        cases j with
        | zero => exact c
        | succ j => exact h4 j (by simpa using k1) (by simpa using k2) (by omega)
      · rintro ⟨h1, h2, h3, h4⟩
        cases i with
        | zero => exact absurd c h3
        | succ i => exact ⟨i, (ih i).2 ⟨by simpa using h1, by simpa using h2, by simpa using h3, fun j k1 k2 hj => h4 (j + 1) (by simpa using k1) (by simpa using k2) (by omega)⟩, rfl⟩
    · rw [if_neg c]
      constructor
      · intro e
        injection e with e
        subst e
        exact ⟨by simp, by simp, c, fun j _ _ hj => by omega⟩
      · rintro ⟨h1, h2, h3, h4⟩
        cases i with
        | zero => rfl
        | succ i => exact absurd (h4 0 (by simp) (by simp) (by omega)) c
theorem runs_drop (m : Md) (l : List Ak) (k : Nat) : (runs (runs m (l.take k)).1 (l.drop k)).2 = (runs m l).2.drop k := by
  have h := runs_append m (l.take k) (l.drop k)
  rw [List.take_append_drop] at h
  rw [h]
  dsimp only
  by_cases hk : k ≤ l.length
  · have e1 : (runs m (l.take k)).2.length = k := by rw [runs_len, List.length_take]; omega
    rw [List.drop_append_of_le_length (by omega), List.drop_of_length_le (Nat.le_of_eq e1), List.nil_append]
  · rw [List.take_of_length_le (l := l) (by omega), List.drop_of_length_le (l := l) (by omega)]
    simp only [runs, List.append_nil]
    rw [List.drop_of_length_le (by rw [runs_len]; omega)]
end Go.Proofs.YtepmgbmnghiaoaaGreat

namespace Go.Proofs.YtepmgbmnghiaoaaGreat
open Go.RowKit Go.Sort Sx
def repsV (m n : Md) (l : List Ak) : Int × Int := if bothV m n = 0 then (if 120 < l.length then (0, 4) else wrgI m l (runs n l).2) else (0, 8)
theorem runs_get {m : Md} {l : List Ak} {i : Nat} (h : i < l.length) (h' : i < (runs m l).2.length) : (runs m l).2[i] = (askV (runs m (l.take i)).1 l[i]).2 := by
  have e := runs_drop m l i
  rw [List.drop_eq_getElem_cons h, List.drop_eq_getElem_cons h', runs] at e
  injection e with e1 _
  exact e1.symm
theorem wrgI_none {m n : Md} {l : List Ak} (h : (runs m l).2 = (runs n l).2) : wrgI m l (runs n l).2 = (0, 6) := by
  unfold wrgI; rw [(wrg_none m l _ (runs_len n l)).2 h]
theorem wrgI_some {m n : Md} {l : List Ak} {i : Nat} (h1 : i < (runs m l).2.length) (h2 : i < (runs n l).2.length) (h3 : (runs m l).2[i] ≠ (runs n l).2[i]) (h4 : ∀ j (k1 : j < (runs m l).2.length) (k2 : j < (runs n l).2.length), j < i → (runs m l).2[j] = (runs n l).2[j]) : wrgI m l (runs n l).2 = ((i : Int), 0) := by
  unfold wrgI; rw [(wrg_some m l _ i (runs_len n l)).2 ⟨h1, h2, h3, h4⟩]
theorem wrgI_cases (m : Md) (l : List Ak) (rs : List Rp) (hl : rs.length = l.length) : (wrgI m l rs = (0, 6) ∧ (runs m l).2 = rs) ∨ ∃ i : Nat, wrgI m l rs = ((i : Int), 0) ∧ i < l.length ∧ (∃ (h1 : i < (runs m l).2.length) (h2 : i < rs.length), (runs m l).2[i] ≠ rs[i]) ∧ (runs m l).2.take i = rs.take i := by
  unfold wrgI
  cases h : wrg m l rs with
  | none => exact .inl ⟨rfl, (wrg_none m l rs hl).1 h⟩
  | some i =>
    obtain ⟨h1, h2, h3, h4⟩ := (wrg_some m l rs i hl).1 h
    refine .inr ⟨i, rfl, by omega, ⟨h1, h2, h3⟩, ?_⟩
    apply List.ext_getElem
    · simp only [List.length_take]; have := runs_len m l; omega
    · intro j k1 k2
      simp only [List.length_take] at k1 k2
      rw [List.getElem_take, List.getElem_take]
      exact h4 j (by omega) (by omega) (by omega)
end Go.Proofs.YtepmgbmnghiaoaaGreat

namespace Go.Proofs.YtepmgbmnghiaoaaGreat
open Go Go.RowKit Go.Sort Sx
theorem dboth_fn (m n : Md) : FnOK Tryz.prog 71 [m.dc, n.dc] (ret1 (bothV m n)) := by
  have H1 := oCheck_fn m
  have H2 := oCheck_fn n
  unfold bothV
  by_cases h : mchk m = 0
  · rw [if_pos h]
    rw [h] at H1
    generalize mchk n = z at *
    refine fn_ok (by kernel_rfl) ty_ok Tryz.func71 rfl (fun _ _ => Tryz.call71 _ _) rfl ?_
    intro hw
    clear hw
    exact zw
  · rw [if_neg h]
    have h8 := (mchk_08 m).resolve_left h
    rw [h8] at H1
    refine fn_ok (by kernel_rfl) ty_ok Tryz.func71 rfl (fun _ _ => Tryz.call71 _ _) rfl ?_
    intro hw
    clear hw
    exact zw
theorem rdBoth_fn (m n : Md) : FnOK Tryz.prog 73 [m.dc, n.dc] (ret1 (bothV m n)) := by
  have H1 := roCheck_fn m
  have H2 := roCheck_fn n
  unfold bothV
  by_cases h : mchk m = 0
  · rw [if_pos h]
    rw [h] at H1
    generalize mchk n = z at *
    refine fn_ok (by kernel_rfl) ty_ok Tryz.func73 rfl (fun _ _ => Tryz.call73 _ _) rfl ?_
    intro hw
    clear hw
    exact zw
  · rw [if_neg h]
    have h8 := (mchk_08 m).resolve_left h
    rw [h8] at H1
    refine fn_ok (by kernel_rfl) ty_ok Tryz.func73 rfl (fun _ _ => Tryz.call73 _ _) rfl ?_
    intro hw
    clear hw
    exact zw
theorem dReplies_fn (m n : Md) (l : List Ak) : FnOK Tryz.prog 28 [m.dc, n.dc, .one (aks l)] (ret2 (repsV m n l)) := by
  have H0 := dboth_fn m n
  unfold repsV
  by_cases h : bothV m n = 0
  · rw [if_pos h]
    rw [h] at H0
    obtain ⟨hm, hn⟩ := both_ok h
    have H1 := oRun_fn m l
    have H2 := oRun_fn n l
    unfold runV at H1 H2
    rw [if_pos hm] at H1
    rw [if_pos hn] at H2
    by_cases h1 : 120 < l.length
    · rw [if_pos h1] at H1 H2 ⊢
      simp only [retR] at H1
      clear H2
      refine fn_ok (by kernel_rfl) ty_ok Tryz.func28 rfl (fun _ _ => Tryz.call28 _ _) rfl ?_
      intro hw
      clear hw
      exact zw
    · rw [if_neg h1] at H1 H2 ⊢
      have hW := fun i => wrgI_some (m := m) (n := n) (l := l) (i := i)
      have hN := wrgI_none (m := m) (n := n) (l := l)
      have e1 := runs_len m l
      have e2 := runs_len n l
      generalize wrgI m l (runs n l).2 = X at *
      generalize (runs m l).1 = y1 at *
      generalize (runs n l).1 = y2 at *
      generalize (runs m l).2 = o at *
      generalize (runs n l).2 = q at *
      have hol : (o.map Rp.c).length = o.length := List.length_map ..
      have hql : (q.map Rp.c).length = q.length := List.length_map ..
      simp only [retR] at H1 H2
      refine fn_ok (by kernel_rfl) ty_ok Tryz.func28 rfl (fun _ _ => Tryz.call28 _ _) rfl ?_
      intro hw
      clear hw
      repeat' ((conv => whnf); first | (with_reducible first | refine br_t ?_ | refine br_f ?_ | refine za ?_ | refine zg ?_) | rw [hol] | refine zp ?_ | refine zq ?_ | (with_reducible first | refine bc (fun h => ?_) (fun h => ?_) | refine zt ?_ | refine zf ?_ | refine br_i (fun h => ?_) (fun h => ?_)) | refine zg ?_ | refine zi ?_ | refine zb ?_)
      clear H0 H1 H2
      refine loop_J (by kernel_rfl) ty_ok (σ := Nat) (fun i => [(43, sV (.int .i64 i))]) (fun _ => []) (fun i => i ≤ o.length ∧ ∀ j (k1 : j < o.length) (k2 : j < q.length), j < i → o[j] = q[j]) (fun i => o.length - i) 0 ⟨Nat.zero_le _, fun j _ _ h => absurd h (Nat.not_lt_zero _)⟩ ?_ ?_
      · (conv => whnf); exact zent
      rintro i ⟨hi, hI⟩
      rcases Nat.lt_or_ge i o.length with hlt | hge
      · have hlt2 : i < q.length := by omega
        have g1 := rps_get hlt
        have g2 := rps_get hlt2
        have HS := oSame_fn o[i] q[i]
        by_cases hc : o[i] = q[i]
        · rw [decide_eq_true hc] at HS
          have hn : ∀ j (k1 : j < o.length) (k2 : j < q.length), j < i + 1 → o[j] = q[j] := fun j k1 k2 hj => by
            rcases Nat.lt_or_ge j i with h | h
            · exact hI j k1 k2 h
            · obtain rfl : j = i := by omega
              exact hc
          clear hc hI hW hN
          generalize o[i] = a at *
          generalize q[i] = b at *
          repeat' ((conv => whnf); first | (with_reducible first | refine br_t ?_ | refine br_f ?_ | refine za ?_ | refine zg ?_) | rw [hol] | rw [hql] | refine zp ?_ | refine zq ?_ | (with_reducible first | refine bc (fun h => ?_) (fun h => ?_) | refine zt ?_ | refine zf ?_ | refine br_i (fun h => ?_) (fun h => ?_)) | refine zg ?_ | refine zi ?_ | refine zb ?_)
          all_goals conv => whnf
          refine ⟨i + 1, ⟨by omega, hn⟩, ?_, by omega⟩
          (conv => whnf); exact zent
        · rw [decide_eq_false hc] at HS
          rw [hW i hlt hlt2 hc hI]
          clear hc hI hW hN
          generalize o[i] = a at *
          generalize q[i] = b at *
          repeat' ((conv => whnf); first | (with_reducible first | refine br_t ?_ | refine br_f ?_ | refine za ?_ | refine zg ?_) | rw [hol] | rw [hql] | refine zp ?_ | refine zq ?_ | (with_reducible first | refine bc (fun h => ?_) (fun h => ?_) | refine zt ?_ | refine zf ?_ | refine br_i (fun h => ?_) (fun h => ?_)) | refine zg ?_ | refine zi ?_ | refine zb ?_)
          all_goals conv => whnf
          all_goals rfl
      · rw [hN (List.ext_getElem (by omega) fun j k1 k2 => hI j k1 k2 (by omega))]
        clear hI hW hN
        repeat' ((conv => whnf); first | (with_reducible first | refine br_t ?_ | refine br_f ?_ | refine za ?_ | refine zg ?_) | rw [hol] | refine zp ?_ | refine zq ?_ | (with_reducible first | refine bc (fun h => ?_) (fun h => ?_) | refine zt ?_ | refine zf ?_ | refine br_i (fun h => ?_) (fun h => ?_)) | refine zg ?_ | refine zi ?_ | refine zb ?_)
        all_goals conv => whnf
        all_goals rfl
  · rw [if_neg h]
    rw [(both_08 m n).resolve_left h] at H0
    refine fn_ok (by kernel_rfl) ty_ok Tryz.func28 rfl (fun _ _ => Tryz.call28 _ _) rfl ?_
    intro hw
    clear hw
    exact zw
theorem rdReplies_fn (m n : Md) (l : List Ak) : FnOK Tryz.prog 29 [m.dc, n.dc, .one (aks l)] (ret2 (repsV m n l)) := by
  have H0 := rdBoth_fn m n
  have hal : (l.map Ak.c).length = l.length := List.length_map ..
  unfold repsV
  by_cases h : bothV m n = 0
  · rw [if_pos h]
    rw [h] at H0
    obtain ⟨hm, hn⟩ := both_ok h
    by_cases h1 : 120 < l.length
    · rw [if_pos h1]
      refine fn_ok (by kernel_rfl) ty_ok Tryz.func29 rfl (fun _ _ => Tryz.call29 _ _) rfl ?_
      intro hw
      simp only [WDCs, WDC, WDs] at hw
      have w1 := wd_aks hw.2.2.1
      clear hw
      repeat' ((conv => whnf); first | (with_reducible first | refine br_t ?_ | refine br_f ?_ | refine za ?_ | refine zg ?_) | rw [hal] | refine zp ?_ | refine zq ?_ | (with_reducible first | refine bc (fun h => ?_) (fun h => ?_) | refine zt ?_ | refine zf ?_ | refine br_i (fun h => ?_) (fun h => ?_)) | refine zg ?_ | refine zi ?_ | refine zb ?_)
      all_goals conv => whnf
      all_goals rfl
    · rw [if_neg h1]
      have e1 := runs_len m l
      have e2 := runs_len n l
      refine fn_ok (by kernel_rfl) ty_ok Tryz.func29 rfl (fun _ _ => Tryz.call29 _ _) rfl ?_
      intro hw
      clear hw
      repeat' ((conv => whnf); first | (with_reducible first | refine br_t ?_ | refine br_f ?_ | refine za ?_ | refine zg ?_) | rw [hal] | refine zp ?_ | refine zq ?_ | (with_reducible first | refine bc (fun h => ?_) (fun h => ?_) | refine zt ?_ | refine zf ?_ | refine br_i (fun h => ?_) (fun h => ?_)) | refine zg ?_ | refine zi ?_ | refine zb ?_)
      clear H0
      refine loop_J (by kernel_rfl) ty_ok (σ := Nat × Md × Md) (fun s => [(9, sV (.int .i64 s.1))]) (fun s => [(3, .own [.d (i64 s.2.1.n), .d (i64 s.2.1.d), .d (pts s.2.1.l)]), (4, .own [.d (i64 s.2.2.n), .d (i64 s.2.2.d), .d (pts s.2.2.l)])])
        (fun s => s.1 ≤ l.length ∧ mchk s.2.1 = 0 ∧ mchk s.2.2 = 0 ∧ (runs m (l.take s.1)).1 = s.2.1 ∧ (runs n (l.take s.1)).1 = s.2.2 ∧ ∀ j (k1 : j < (runs m l).2.length) (k2 : j < (runs n l).2.length), j < s.1 → (runs m l).2[j] = (runs n l).2[j]) (fun s => l.length - s.1) (0, m, n) ⟨Nat.zero_le _, hm, hn, rfl, rfl, fun j _ _ h => absurd h (Nat.not_lt_zero _)⟩ ?_ ?_
      · (conv => whnf); exact zent
      rintro ⟨i, u, v⟩ ⟨hi, hu, hv, hU, hV, hI⟩
      dsimp only at hi hu hv hU hV hI
      rcases Nat.lt_or_ge i l.length with hlt | hge
      · have g1 := aks_get hlt
        have f1 := runs_get (m := m) hlt (by omega)
        have f2 := runs_get (m := n) hlt (by omega)
        rw [hU] at f1
        rw [hV] at f2
        have A1 := roDid_fn hu l[i]
        have A2 := roDid_fn hv l[i]
        have n1 := runs_succ (m := m) hlt
        have n2 := runs_succ (m := n) hlt
        rw [hU] at n1
        rw [hV] at n2
        have v1 := askV_ok hu l[i]
        have v2 := askV_ok hv l[i]
        generalize l[i] = a at *
        generalize askV u a = x at *
        generalize askV v a = y at *
        obtain ⟨x1, x2⟩ := x
        obtain ⟨y1, y2⟩ := y
        dsimp only at f1 f2 n1 n2 v1 v2
        simp only [retA] at A1 A2
        have HS := roSame_fn x2 y2
        by_cases hc : x2 = y2
        · rw [decide_eq_true hc] at HS
          have hn : ∀ j (k1 : j < (runs m l).2.length) (k2 : j < (runs n l).2.length), j < i + 1 → (runs m l).2[j] = (runs n l).2[j] := fun j k1 k2 hj => by
            rcases Nat.lt_or_ge j i with h | h
            · exact hI j k1 k2 h
            · obtain rfl : j = i := by omega
              rw [f1, f2, hc]
          clear hc hI f1 f2
          have p1 := congrArg Prod.fst n1
          have p2 := congrArg Prod.fst n2
          dsimp only at p1 p2
          repeat' ((conv => whnf); first | (with_reducible first | refine br_t ?_ | refine br_f ?_ | refine za ?_ | refine zg ?_) | rw [hal] | refine zp ?_ | refine zq ?_ | (with_reducible first | refine bc (fun h => ?_) (fun h => ?_) | refine zt ?_ | refine zf ?_ | refine br_i (fun h => ?_) (fun h => ?_)) | refine zg ?_ | refine zi ?_ | refine zb ?_)
          all_goals conv => whnf
          refine ⟨(i + 1, x1, y1), ⟨by omega, v1, v2, p1, p2, hn⟩, ?_, by simp only; omega⟩
          (conv => whnf); exact zent
        · rw [decide_eq_false hc] at HS
          rw [wrgI_some (i := i) (by omega) (by omega) (by rw [f1, f2]; exact hc) hI]
          clear hc hI f1 f2
          repeat' ((conv => whnf); first | (with_reducible first | refine br_t ?_ | refine br_f ?_ | refine za ?_ | refine zg ?_) | rw [hal] | refine zp ?_ | refine zq ?_ | (with_reducible first | refine bc (fun h => ?_) (fun h => ?_) | refine zt ?_ | refine zf ?_ | refine br_i (fun h => ?_) (fun h => ?_)) | refine zg ?_ | refine zi ?_ | refine zb ?_)
          all_goals conv => whnf
          all_goals rfl
      · rw [wrgI_none (List.ext_getElem (by omega) fun j k1 k2 => hI j k1 k2 (by omega))]
        clear hI
        repeat' ((conv => whnf); first | (with_reducible first | refine br_t ?_ | refine br_f ?_ | refine za ?_ | refine zg ?_) | rw [hal] | refine zp ?_ | refine zq ?_ | (with_reducible first | refine bc (fun h => ?_) (fun h => ?_) | refine zt ?_ | refine zf ?_ | refine br_i (fun h => ?_) (fun h => ?_)) | refine zg ?_ | refine zi ?_ | refine zb ?_)
        all_goals conv => whnf
        all_goals rfl
  · rw [if_neg h]
    rw [(both_08 m n).resolve_left h] at H0
    refine fn_ok (by kernel_rfl) ty_ok Tryz.func29 rfl (fun _ _ => Tryz.call29 _ _) rfl ?_
    intro hw
    clear hw
    exact zw
theorem DLgreat_fn (m n : Md) : FnOK Tryz.prog 27 [m.dc, n.dc] (.c (.one (bol (great m.l || great n.l)))) := by
  have H1 := rfGreat_fn m.l
  have H2 := rfGreat_fn n.l
  generalize great n.l = z at *
  cases h : great m.l
  all_goals
    rw [h] at H1
    refine fn_ok (by kernel_rfl) ty_ok Tryz.func27 rfl (fun _ _ => Tryz.call27 _ _) rfl ?_
    intro hw
    clear hw
    exact zw
end Go.Proofs.YtepmgbmnghiaoaaGreat

namespace Go.Proofs.YtepmgbmnghiaoaaGreat
open Go Go.RowKit
namespace Sx
variable {P : Program} {sz : Nat} {E : Env} {H : Hp}
def kpE (ks : List Nat) : List Nat → Env → Env
  | _, [] => []
  | D, (t, x) :: r => match memB t D with
    | true => kpE ks D r
    | false => match memB t ks with | true => (t, x) :: kpE ks (t :: D) r | false => kpE ks (t :: D) r
theorem look_kpE {ks : List Nat} : ∀ {E : Env} {D : List Nat} {t : Nat} {x : SV}, look (kpE ks D E) t = some x → t ∉ D ∧ look E t = some x
  | [], D, t, x, h => by simp [kpE, look] at h
  | (u, y) :: r, D, t, x, h => by
    unfold kpE at h
    rw [look_cons]
    split at h
    · rename_i hm
      obtain ⟨h1, h2⟩ := look_kpE h
      exact ⟨h1, by rw [if_neg (by rintro rfl; exact h1 (memB_iff.1 hm))]; exact h2⟩
    · rename_i hm
      have hm' : u ∉ D := fun h' => by rw [memB_iff.2 h'] at hm; cases hm
      split at h
      · rw [look_cons] at h
        split at h
        · rename_i e
          injection h with h
          subst e h
          exact ⟨hm', by rw [if_pos rfl]⟩
        · obtain ⟨h1, h2⟩ := look_kpE h
          refine ⟨fun h' => h1 (List.mem_cons_of_mem _ h'), ?_⟩
          rename_i e
          rw [if_neg e]; exact h2
      · obtain ⟨h1, h2⟩ := look_kpE h
        exact ⟨fun h' => h1 (List.mem_cons_of_mem _ h'), by rw [if_neg (by rintro rfl; exact h1 (List.mem_cons_self ..))]; exact h2⟩
theorem loop_keep (ks : List Nat) {dm : Bool} {body : Code} {k : Exit → Env → Hp → Prop} (h : frcEnv (kpE ks [] E) fun E1 => LoopP P sz dm body E1 H k) : LoopP P sz dm body E H k :=
  ⟨fun C M0 w0 ρ a w Q hdm R hQ => ((frcEnv_iff _ _).1 h).run C M0 w0 ρ a w Q hdm (R.same (fun t x hx => (look_kpE hx).2) fun _ => rfl) hQ⟩
end Sx
end Go.Proofs.YtepmgbmnghiaoaaGreat

namespace Go.Proofs.YtepmgbmnghiaoaaGreat
open Go Go.RowKit Go.Sort Sx
set_option maxHeartbeats 4000000 in
set_option maxRecDepth 100000 in
theorem growAk_run (n : Nat) (w : World) (h0 : 0 < n) (h1 : n ≤ 1000000) : Calls Tryz.prog 124 #[.slice none 0 0, .int .i64 n] w fun e w' => ∃ (G : Nat) (row : List Value), e = .returned (.slice (some ⟨w.heap.size, 0, none⟩) 0 G) ∧ G ≤ 9223372036854775807 ∧ Below w.heap.size w w' ∧ w.heap.size < w'.heap.size ∧ row.length = G * 7 ∧ CellsAt w' w.heap.size row := by
  obtain ⟨e, he, hsz, _, _, ti, z, hi0, hsz0, hz0, hzs, _, hby⟩ := (ty_ok 33 (.sl 7 true [.v (.int .u8 0), .v (.int .i64 0), .v (.int .i64 0), .v (.int .i64 0), .v (.int .i64 0), .v (.int .i64 0), .v (.int .i64 0)]) rfl).2.2.2
  have hee : e = 32 := by
    have := he.symm.trans Tryz.underlying33
    injection this with this; injection this
  subst hee
  have h48 : n * ti.bytes ≤ 281474976710656 := by
    have : n * ti.bytes ≤ 1000000 * 65536 := Nat.mul_le_mul h1 hby
    omega
  have hrz := fun ty => Lib.run_append_nil_zeros (P := Tryz.prog) w 33 3 ty 32 ti z .i64 .i64 Tryz.underlying33 Tryz.underlying3 hi0 hz0 n h0 (by omega) (by omega) h48
  have hG : n ≤ grownCap w n 0 32 := grownCap_ge w _ _ _
  have hG63 : grownCap w n 0 32 ≤ 9223372036854775807 := by
    have := grownCap_le_maxLen w n 0 32 (by unfold maxLen; omega)
    unfold maxLen at this
    omega
  generalize grownCap w n 0 32 = G at *
  obtain ⟨ROW, hROW⟩ : ∃ ROW : Array Value, ROW = Builtin.zeroCells z.cells n ++ Builtin.zeroCells z.cells (G - n) := ⟨_, rfl⟩
  rw [← hROW] at hrz
  have hRl : ROW.toList.length = G * 7 := by
    rw [hROW]
    simp only [Array.toList_append, List.length_append, Array.length_toList, size_zeroCells, hzs]
    omega
  obtain ⟨W1, hW1⟩ : ∃ W1, W1 = w.drew.alloc (.cells ROW 32) := ⟨_, rfl⟩
  rw [← hW1] at hrz
  have c0 : CellsAt W1 w.heap.size ROW.toList := ⟨32, by rw [hW1]; exact (heap_alloc_new w.drew _)⟩
  have hB1 : Below w.heap.size w W1 := by rw [hW1]; exact below_drew_alloc w _
  have hs1 : w.heap.size < W1.heap.size := by rw [hW1]; simp
  have FIN : Hid (Below w.heap.size w W1 ∧ w.heap.size < W1.heap.size ∧ CellsAt W1 w.heap.size ROW.toList) := Lib.hid ⟨hB1, hs1, c0⟩
  have hw1 : IntKind.i64.wrap (n : Int) = (n : Int) := by rw [IntKind.wrap_i64]; omega
  have hp : (0 : Int) < (n : Int) := by omega
  have hn : ¬ ((n : Int) < 0) := by omega
  have mixed : Tryz.prog.follows .mixedOrders = true := by kernel_rfl
  clear hROW hW1 hB1 hs1 c0
  go_enter Tryz.func124, Tryz.ntmps124
  go_wp2_with (at_builtin; refine Lib.wpList_append_run _ rfl _ _ _ _ rfl _ _ rfl rfl _ _ (hrz _) ?_)
  go_ret
  exact ⟨G, rfl, hG63, FIN.out.1, FIN.out.2.1, ROW.toList, hRl, FIN.out.2.2⟩
set_option maxHeartbeats 4000000 in
set_option maxRecDepth 100000 in
theorem growAk_run0 (w : World) : Calls Tryz.prog 124 #[.slice none 0 0, .int .i64 0] w fun e w' => e = .returned (.slice none 0 0) ∧ w' = w := by
  have mixed : Tryz.prog.follows .mixedOrders = true := by kernel_rfl
  go_enter Tryz.func124, Tryz.ntmps124
  go_wp2
  go_ret
  exact ⟨rfl, rfl⟩
theorem growAk_own (n : Nat) (h1 : n ≤ 1000000) : FnOwn Tryz.prog 124 [.one (.v (.slice none 0 0)), .one (i64 n)] (ownL 7 []) := by
  intro w M vs hM hd
  match vs, hd with
  | [v1, v2], hd =>
    have k1 : Rep w M (.v (.slice none 0 0)) v1 := hd.1
    have k2 : Rep w M (.v (.int .i64 n)) v2 := hd.2.1
    cases k1
    cases k2
    rcases Nat.eq_zero_or_pos n with rfl | h0
    · refine ⟨124, Tryz.call124 _ _, (growAk_run0 w).mono ?_⟩
      rintro e w' ⟨rfl, rfl⟩
      exact ⟨_, ⟨false, 0, 0, 0, 0⟩, rfl, Below.refl _ _, rfl, rfl, fun h => absurd h (Nat.lt_irrefl _), ⟨rfl, rfl, Nat.le_refl _, fun _ => ⟨none, rfl, fun h => absurd h (Nat.lt_irrefl _)⟩⟩, ⟨by simp, rfl, fun _ => rfl, rfl, rfl⟩, fun h => by simp [Blk.real] at h⟩
    · refine ⟨124, Tryz.call124 _ _, (growAk_run n w h0 h1).mono ?_⟩
      rintro e w' ⟨G, row, rfl, hG, hB, hs, hl, hc⟩
      exact ⟨_, ⟨false, w.heap.size, G, 0, 0⟩, rfl, hB, rfl, rfl, fun _ => ⟨Nat.le_refl _, hs⟩, ⟨rfl, rfl, Nat.le_refl _, fun _ => ⟨_, rfl, fun _ => rfl⟩⟩, ⟨by simp, rfl, fun _ => rfl, rfl, rfl⟩, fun _ => ⟨row, hc, Nat.zero_le _, hG, hl, [], row, rfl, trivial⟩⟩
abbrev lol (L : List (List (List D))) : D := .list 1 (L.map fun x => [.list 7 x])
theorem lol_get {L : List (List (List D))} {i : Nat} (h : i < L.length) : (L.map fun x => [D.list 7 x])[((i : Nat) : Int).toNat]? = some [.list 7 L[i]] := by
  rw [Int.toNat_natCast, List.getElem?_map, List.getElem?_eq_getElem h]; rfl
theorem flat_succ {α : Type} {L : List (List α)} {i : Nat} (h : i < L.length) : (L.take (i + 1)).flatten = (L.take i).flatten ++ L[i] := by
  rw [List.take_succ_eq_append_getElem h, List.flatten_append]; simp
theorem flat_le {α : Type} (L : List (List α)) (i : Nat) : (L.take i).flatten.length ≤ L.flatten.length := by
  conv => rhs; rw [← List.take_append_drop i L, List.flatten_append, List.length_append]
  omega
set_option maxRecDepth 100000 in
set_option maxHeartbeats 4000000 in
theorem catAk_own (L : List (List (List D))) (h1 : L.flatten.length ≤ 1000000) (h2 : L.length ≤ 1000000) : FnOwn Tryz.prog 87 [.one (lol L)] (ownL 7 L.flatten) := by
  have hL : (L.map fun x => [D.list 7 x]).length = L.length := List.length_map ..
  refine fn_own (by kernel_rfl) (ty_okK [24, 33] [] [] []) Tryz.func87 rfl (fun _ _ => Tryz.call87 _ _) rfl ?_
  intro hw
  clear hw
  repeat' ((conv => whnf); first | (with_reducible first | refine br_t ?_ | refine br_f ?_ | refine za ?_ | refine zg ?_ | refine zo ?_) | rw [hL] | refine zp ?_ | refine zq ?_ | (with_reducible first | refine bc (fun h => ?_) (fun h => ?_) | refine zt ?_ | refine zf ?_ | refine br_i (fun h => ?_) (fun h => ?_)) | refine zg ?_ | refine zi ?_ | refine zb ?_ | refine zl ?_)
  refine loop_J (by kernel_rfl) (ty_okK [24, 33] [] [] []) (σ := Nat) (fun i => [(11, sV (.int .i64 i)), (3, sV (.int .i64 ((L.take i).flatten.length : Nat)))]) (fun _ => []) (fun i => i ≤ L.length) (fun i => L.length - i) 0 (Nat.zero_le _) ?_ ?_
  · (conv => whnf); exact zent
  intro i hi
  rcases Nat.lt_or_ge i L.length with hlt | hge
  · have hel := lol_get hlt
    have e1 := congrArg List.length (flat_succ hlt)
    rw [List.length_append] at e1
    have e2 := flat_le L (i + 1)
    generalize (L.take i).flatten.length = c at *
    obtain ⟨d, hdd⟩ : ∃ d, d = (L.take (i + 1)).flatten.length := ⟨_, rfl⟩
    rw [← hdd] at e1 e2
    have hwr : IntKind.i64.wrap ((c : Int) + (L[i].length : Int)) = (d : Int) := by rw [IntWalk.i64_in _ (by omega)]; omega
    generalize L[i] = x at *
    repeat' ((conv => whnf); first | (with_reducible first | refine br_t ?_ | refine br_f ?_ | refine za ?_ | refine zg ?_ | refine zo ?_) | rw [hL] | rw [hwr] | refine zp ?_ | refine zq ?_ | (with_reducible first | refine bc (fun h => ?_) (fun h => ?_) | refine zt ?_ | refine zf ?_ | refine br_i (fun h => ?_) (fun h => ?_)) | refine zg ?_ | refine zi ?_ | refine zb ?_ | refine zl ?_)
    all_goals conv => whnf
    refine ⟨i + 1, by omega, ?_, by omega⟩
    (conv => whnf); exact zent
  · obtain rfl : i = L.length := by omega
    have HG := growAk_own L.flatten.length h1
    have eF : (L.take L.length).flatten = L.flatten := by rw [List.take_length]
    rw [eF]
    repeat' ((conv => whnf); first | (with_reducible first | refine br_t ?_ | refine br_f ?_ | refine za ?_ | refine zg ?_ | refine zo ?_) | rw [hL] | refine zp ?_ | refine zq ?_ | (with_reducible first | refine bc (fun h => ?_) (fun h => ?_) | refine zt ?_ | refine zf ?_ | refine br_i (fun h => ?_) (fun h => ?_)) | refine zg ?_ | refine zi ?_ | refine zb ?_ | refine zl ?_)
    refine loop_keep [2, 6, 25, 26, 27] ?_
    conv => whnf
    refine loop_J (by kernel_rfl) (ty_okK [24, 33] [] [] []) (σ := Nat) (fun i => [(27, sV (.int .i64 i)), (6, .c (.at (.osl 24 0)))]) (fun i => [(24, .row 7 (L.take i).flatten 0)]) (fun i => i ≤ L.length) (fun i => L.length - i) 0 (Nat.zero_le _) ?_ ?_
    · (conv => whnf); exact zent
    intro i hi
    rcases Nat.lt_or_ge i L.length with hlt | hge
    · have hel := lol_get hlt
      have hs := (flat_succ hlt).symm
      have e1 := congrArg List.length hs
      rw [List.length_append] at e1
      have e2 := flat_le L (i + 1)
      generalize (L.take i).flatten = c at *
      generalize L[i] = x at *
      repeat' ((conv => whnf); first | (with_reducible first | refine br_t ?_ | refine br_f ?_ | refine za ?_ | refine zg ?_ | refine zo ?_) | rw [hL] | refine zp ?_ | refine zq ?_ | (with_reducible first | refine bc (fun h => ?_) (fun h => ?_) | refine zt ?_ | refine zf ?_ | refine br_i (fun h => ?_) (fun h => ?_)) | refine zg ?_ | refine zi ?_ | refine zb ?_ | refine zl ?_)
      all_goals conv => whnf
      refine ⟨i + 1, by omega, ?_, by omega⟩
      (conv => whnf); refine ⟨by repeat' (first | with_reducible exact zE0 | with_reducible refine zE1 ?_ ?_ | rfl | assumption | ((exact congrArg (fun x => some (Blk.row 7 x 0)) hs)) | exact zi1 | exact zb1), by repeat' (first | with_reducible exact zH0 | with_reducible refine zH1 ?_ ?_ | rfl | assumption | ((exact congrArg (fun x => some (Blk.row 7 x 0)) hs))), rfl⟩
    · obtain rfl : i = L.length := by omega
      rw [List.take_length]
      repeat' ((conv => whnf); first | (with_reducible first | refine br_t ?_ | refine br_f ?_ | refine za ?_ | refine zg ?_ | refine zo ?_) | rw [hL] | refine zp ?_ | refine zq ?_ | (with_reducible first | refine bc (fun h => ?_) (fun h => ?_) | refine zt ?_ | refine zf ?_ | refine br_i (fun h => ?_) (fun h => ?_)) | refine zg ?_ | refine zi ?_ | refine zb ?_ | refine zl ?_)
      all_goals conv => whnf
      exact .inl ⟨24, 0, _, rfl, rfl, rfl⟩
end Go.Proofs.YtepmgbmnghiaoaaGreat
