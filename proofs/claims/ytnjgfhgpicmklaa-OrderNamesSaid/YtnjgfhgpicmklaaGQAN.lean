import Derived.Test.YtnjgfhgpicmklaaGQAM
import Derived.Test.YtnjgfhgpicmklaaGQAL
import Derived.Lib.SlKeysI
import Derived.Shelf.SlIterI.Nil
import Derived.Shelf.SortM.Plain
import Derived.Shelf.SortM.SortNone
import Derived.Ground.GgzProg
import Derived.Ground.SlgmProg
import Derived.Test.YtnjgfhgpicmklaaProg
import Derived.Test.YtnjgfhgpicmklaaGQAK
import Derived.Maps.OwnSet
set_option linter.all false
namespace Go.Proofs.Ytnjgfhgpicmklaa
open Go Go.RowKit Go.Sort Sx
def ldP (l : List Pt) (n m : Int) : Pt := (srt n m l)[0]?.getD default
def askV (m : Md) (a : Ak) : Md × Rp :=
  if formV a then
    (if a.k = 1 then (if (putV m.l a.p).2 = 0 then (⟨m.n, m.d, (putV m.l a.p).1⟩, rp0) else (m, rpE (putV m.l a.p).2))
    else if a.k = 2 then (if (takeV m.l a.id).2 = 0 then (⟨m.n, m.d, (takeV m.l a.id).1⟩, rp0) else (m, rpE (takeV m.l a.id).2))
    else if a.k = 3 then (if (changeV m.l a.p).2 = 0 then (⟨m.n, m.d, (changeV m.l a.p).1⟩, rp0) else (m, rpE (changeV m.l a.p).2))
    else if a.k = 4 then (if askd a.n a.d = 0 then (if a.n * m.d ≤ m.n * a.d then (m, rpE 44) else (⟨a.n, a.d, m.l⟩, ⟨0, 0, 0, 0, 0, btw (allM m.l) m.n m.d a.n a.d⟩)) else (m, rpE (askd a.n a.d)))
    else if a.k = 5 then (if m.l.length = 0 then (m, rpE 42) else (m, ⟨0, (ldP m.l m.n m.d).id, 0, (plc (ldP m.l m.n m.d) m.n m.d).1, (plc (ldP m.l m.n m.d) m.n m.d).2, []⟩))
    else (m, ⟨(closV m.l m.n m.d).2.2.2.2, (closV m.l m.n m.d).1, (closV m.l m.n m.d).2.1, (closV m.l m.n m.d).2.2.1, (closV m.l m.n m.d).2.2.2.1, []⟩))
  else (m, rpE 12)
abbrev retA (x : Md × Rp) : DV := .tup [x.1.dc, x.2.dc]
end Go.Proofs.Ytnjgfhgpicmklaa

namespace Go.Proofs.Ytnjgfhgpicmklaa
open Go Go.RowKit Go.Sort Sx
structure InsO (L0 : List Mt) (i : Nat) (L : List Mt) : Prop where
  p : L.Perm L0
  o : ∀ a b (h : a < b) (hb : b < L.length), b < i → ¬ mlt L[b] L[a]
structure InsI (L0 : List Mt) (i k : Nat) (L : List Mt) : Prop where
  p : L.Perm L0
  hk : k ≤ i
  hi : i < L.length
  o : ∀ a b (h : a < b) (hb : b < L.length), b ≤ i → b ≠ k → ¬ mlt L[b] L[a]
def swp (L : List Mt) (k : Nat) (h : k < L.length) : List Mt := (L.set k L[k - 1]).set (k - 1) L[k]
theorem swp_len {L : List Mt} {k : Nat} (h : k < L.length) : (swp L k h).length = L.length := by simp [swp]
theorem swp_get {L : List Mt} {k : Nat} (h : k < L.length) (h0 : 0 < k) {b : Nat} (hb : b < (swp L k h).length) :
    (swp L k h)[b] = if b = k - 1 then L[k] else if b = k then L[k - 1] else L[b]'(by rw [swp_len] at hb; exact hb) := by
  simp only [swp, List.getElem_set, eq_comm (b := b)]
theorem swap_at {x y : Mt} {l r : List Mt} : (l ++ y :: x :: r).Perm (l ++ x :: y :: r) := List.Perm.append_left l (List.Perm.swap ..)
theorem swp_perm {L : List Mt} {k : Nat} (h : k < L.length) (h0 : 0 < k) : (swp L k h).Perm L := by
  obtain ⟨j, rfl⟩ : ∃ j, k = j + 1 := ⟨k - 1, by omega⟩
  have e1 : L = L.take j ++ L[j] :: L[j + 1] :: L.drop (j + 2) := by
    rw [← List.drop_eq_getElem_cons h, ← List.drop_eq_getElem_cons (by omega), List.take_append_drop]
  have e2 : swp L (j + 1) h = L.take j ++ L[j + 1] :: L[j] :: L.drop (j + 2) := by
    refine List.ext_getElem (by rw [swp_len]; simp; omega) fun b h1 h2 => ?_
    rw [swp_get h h0]
    rw [swp_len] at h1
    simp only [Nat.add_sub_cancel]
    rcases Nat.lt_trichotomy b j with c | c | c
    · rw [if_neg (by omega), if_neg (by omega), List.getElem_append_left (by simp; omega), List.getElem_take]
    · subst c
      have hm : min b L.length = b := Nat.min_eq_left (by omega)
      rw [if_pos rfl, List.getElem_append_right (by rw [List.length_take]; omega)]
      simp only [List.length_take, hm, Nat.sub_self, List.getElem_cons_zero]
    · rw [if_neg (by omega), List.getElem_append_right (by simp; omega)]
      by_cases c1 : b = j + 1
      · subst c1
        have key : ∀ q, q = 1 → ∀ (hq : q < (L[j + 1] :: L[j] :: List.drop (j + 2) L).length), (L[j + 1] :: L[j] :: List.drop (j + 2) L)[q] = L[j] := by rintro _ rfl _; rfl
        rw [if_pos rfl]
        exact (key _ (by rw [List.length_take]; omega) _).symm
      · obtain ⟨d, rfl⟩ : ∃ d, b = j + (d + 2) := ⟨b - j - 2, by omega⟩
        rw [if_neg c1]
        simp only [List.length_take, Nat.min_eq_left (show j ≤ L.length by omega), Nat.add_sub_cancel_left, List.getElem_cons_succ, List.getElem_drop]
        exact getElem_congr rfl (by omega) _
  rw [e2]
  conv => rhs; rw [e1]
  exact swap_at
theorem InsI.next {L0 L : List Mt} {i k : Nat} (H : InsI L0 i k L) (h0 : 0 < k) (hl : mlt (L[k]'(Nat.lt_of_le_of_lt H.hk H.hi)) (L[k - 1]'(by have := H.hk; have := H.hi; omega))) : InsI L0 i (k - 1) (swp L k (Nat.lt_of_le_of_lt H.hk H.hi)) := by
  have hk := H.hk
  have hi := H.hi
  refine ⟨(List.Perm.trans ?_ H.p), by omega, by rw [swp_len]; exact hi, fun a b h hb h1 h2 => ?_⟩
  · exact swp_perm _ h0
  · have hb' := hb
    rw [swp_len] at hb'
    rw [swp_get _ h0, swp_get _ h0]
    rw [if_neg h2]
    by_cases c1 : b = k
    · rw [if_pos c1]
      by_cases c2 : a = k - 1
      · rw [if_pos c2]; exact fun h => mlt_asymm h hl
      · rw [if_neg c2, if_neg (by omega)]
        exact H.o a (k - 1) (by omega) (by omega) (by omega) (by omega)
    · rw [if_neg c1]
      by_cases c2 : a = k - 1
      · rw [if_pos c2]
        exact H.o k b (by omega) hb' h1 c1
      · rw [if_neg c2]
        by_cases c3 : a = k
        · rw [if_pos c3]
          exact H.o (k - 1) b (by omega) hb' h1 c1
        · rw [if_neg c3]
          exact H.o a b h hb' h1 c1
theorem InsO.done {L0 L : List Mt} {i : Nat} (H : InsO L0 i L) (hok : ∀ m ∈ L0, chk m.n m.d = 0) (hi : L.length ≤ i) : L = msrt L0 := by
  refine List.Perm.eq_of_pairwise (le := fun a b => ¬ mlt b a) (fun a b ha hb h1 h2 => ?_) ?_ (msrt_sorted L0) (H.p.trans (msrt_perm L0).symm)
  · exact mlt_eq (hok a (H.p.mem_iff.1 ha)) (hok b (msrt_mem.1 hb)) h2 h1
  · exact List.pairwise_iff_getElem.2 fun a b ha hb h => H.o a b h hb (by omega)
end Go.Proofs.Ytnjgfhgpicmklaa

namespace Go.Proofs.Ytnjgfhgpicmklaa
open Go Go.RowKit Go.Sort Sx
theorem Mt.eq_iff {p q : Mt} : p = q ↔ p.n = q.n ∧ p.d = q.d ∧ p.i = q.i ∧ p.j = q.j := by
  cases p; cases q; simp
end Go.Proofs.Ytnjgfhgpicmklaa

namespace Go.Proofs.Ytnjgfhgpicmklaa
open Go Go.RowKit Go.Sort Sx
end Go.Proofs.Ytnjgfhgpicmklaa

namespace Go.Proofs.Ytnjgfhgpicmklaa
open Go Go.RowKit Go.Sort Sx
theorem incr_pw {l : List Pt} : incr l = true ↔ l.Pairwise fun p q => p.id < q.id := by
  rw [List.pairwise_iff_getElem]
  refine ⟨fun h i j hi hj hij => incr_lt h j i hj hij, fun h => incr_iff.2 fun i hi => h i (i + 1) (by omega) hi (by omega)⟩
theorem fchk_mk {l : List Pt} (h1 : l.length ≤ 64) (h2 : ∀ p ∈ l, p.chk = 0) (h3 : incr l = true) : fchk l = 0 := by
  unfold fchk
  rw [if_neg (by omega), if_pos (List.all_eq_true.2 fun p hp => by simpa using h2 p hp), if_pos h3]
theorem incr_insP {l : List Pt} {p : Pt} (h : incr l = true) (hn : has l p.id = false) : incr (insP l p) = true := by
  obtain ⟨h1, h2⟩ := pos_spec (id := p.id) h
  have hne : ∀ q ∈ l, q.id ≠ p.id := fun q hq e => by
    have : has l p.id = true := List.any_eq_true.2 ⟨q, hq, by simp [e]⟩
    rw [hn] at this; cases this
  rw [incr_pw] at h ⊢
  unfold insP
  refine List.pairwise_append.2 ⟨h.sublist (List.take_sublist ..), List.pairwise_cons.2 ⟨fun q hq => ?_, h.sublist (List.drop_sublist ..)⟩, fun a ha b hb => ?_⟩
  · obtain ⟨k, hk, rfl⟩ := List.mem_iff_getElem.1 hq
    rw [List.getElem_drop]
    rw [List.length_drop] at hk
    have := h2 (pos l p.id + k) (by omega) (by omega)
    have := hne _ (List.getElem_mem (show pos l p.id + k < l.length by omega))
    omega
  · have ha' : a.id < p.id := by
      obtain ⟨k, hk, rfl⟩ := List.mem_iff_getElem.1 ha
      rw [List.getElem_take]
      rw [List.length_take] at hk
      exact h1 k (by omega) (by omega)
    rcases List.mem_cons.1 hb with rfl | hb
    · exact ha'
    · obtain ⟨k, hk, rfl⟩ := List.mem_iff_getElem.1 hb
      rw [List.getElem_drop]
      rw [List.length_drop] at hk
      have := h2 (pos l p.id + k) (by omega) (by omega)
      omega
theorem putV_ok {l : List Pt} {p : Pt} (h : (putV l p).2 = 0) : fchk (putV l p).1 = 0 := by
  unfold putV at h ⊢
  split at h
  · rename_i h0
    rw [if_pos h0]
    split at h
    · rename_i h1
      rw [if_pos h1]
      split at h
      · simp at h
      · rename_i h2
        rw [if_neg h2]
        split at h
        · simp at h
        · rename_i h3
          rw [if_neg h3]
          obtain ⟨k1, k2, k3⟩ := fchk_ok h0
          refine fchk_mk ?_ (fun q hq => ?_) (incr_insP k3 (by simpa using h2))
          · show (insP l p).length ≤ 64
            unfold insP
            simp only [List.length_append, List.length_cons, List.length_take, List.length_drop]
            omega
          · have hq : q ∈ insP l p := hq
            unfold insP at hq
            rcases List.mem_append.1 hq with hq | hq
            · exact k2 q (List.mem_of_mem_take hq)
            · rcases List.mem_cons.1 hq with rfl | hq
              · exact h1
              · exact k2 q (List.mem_of_mem_drop hq)
    · simp at h
  · rename_i h0; exact absurd h h0
theorem takeV_ok {l : List Pt} {id : Int} (h : (takeV l id).2 = 0) : fchk (takeV l id).1 = 0 := by
  unfold takeV at h ⊢
  split at h
  · rename_i h0
    rw [if_pos h0]
    split at h
    · rename_i h1
      rw [if_pos h1]
      obtain ⟨k1, k2, k3⟩ := fchk_ok h0
      show fchk (without l id) = 0
      unfold without
      exact fchk_mk (Nat.le_trans (List.length_filter_le ..) k1) (fun q hq => k2 q (List.mem_filter.1 hq).1) (incr_pw.2 ((incr_pw.1 k3).filter _))
    · simp at h
  · rename_i h0; exact absurd h h0
theorem changeV_ok {l : List Pt} {p : Pt} (h : (changeV l p).2 = 0) : fchk (changeV l p).1 = 0 := by
  unfold changeV at h ⊢
  split at h
  · rename_i h0
    rw [if_pos h0]
    split at h
    · rename_i h1
      rw [if_pos h1]
      split at h
      · rename_i h2
        rw [if_pos h2]
        obtain ⟨k1, k2, k3⟩ := fchk_ok h0
        obtain ⟨hlt, he⟩ := (has_pos k3).1 h2
        show fchk (l.set (pos l p.id) p) = 0
        refine fchk_mk (by simpa using k1) (fun q hq => ?_) (incr_pw.2 (List.pairwise_iff_getElem.2 fun i j hi hj hij => ?_))
        · rcases List.mem_or_eq_of_mem_set hq with hq | rfl
          · exact k2 q hq
          · exact h1
        · have key : ∀ k (hk : k < (l.set (pos l p.id) p).length), (l.set (pos l p.id) p)[k].id = (l[k]'(by simpa using hk)).id := fun k hk => by
            rw [List.getElem_set]
            split
            · rename_i e; subst e; exact he.symm
            · rfl
          rw [key, key]
          exact incr_lt k3 j i (by simpa using hj) hij
      · simp at h
    · simp at h
  · rename_i h0; exact absurd h h0
theorem mchk_mk {m : Md} (h1 : askd m.n m.d = 0) (h2 : fchk m.l = 0) : mchk m = 0 := by
  rw [mchk_orN, h1, h2]; rfl
theorem askV_ok {m : Md} (hm : mchk m = 0) (a : Ak) : mchk (askV m a).1 = 0 := by
  obtain ⟨g1, g2⟩ := mchk_ok hm
  unfold askV
  split
  · split
    · split
      · exact mchk_mk g1 (putV_ok (by assumption))
      · exact hm
    · split
      · split
        · exact mchk_mk g1 (takeV_ok (by assumption))
        · exact hm
      · split
        · split
          · exact mchk_mk g1 (changeV_ok (by assumption))
          · exact hm
        · split
          · split
            · split
              · exact hm
              · exact mchk_mk (by assumption) g2
            · exact hm
          · split
            · split <;> exact hm
            · exact hm
  · exact hm
end Go.Proofs.Ytnjgfhgpicmklaa

namespace Go.Proofs.Ytnjgfhgpicmklaa
open Go Go.RowKit Go.Sort Sx
abbrev aks (l : List Ak) : D := .list 7 (l.map Ak.c)
theorem aks_get {l : List Ak} {i : Nat} (h : i < l.length) : (l.map Ak.c)[((i : Nat) : Int).toNat]? = some [u8 l[i].k, i64 l[i].p.id, i64 l[i].p.a, i64 l[i].p.b, i64 l[i].id, i64 l[i].n, i64 l[i].d] := by
  rw [Int.toNat_natCast, List.getElem?_map, List.getElem?_eq_getElem h]; rfl
theorem Rp.eq_iff {p q : Rp} : p = q ↔ p.e = q.e ∧ p.i = q.i ∧ p.j = q.j ∧ (p.n = q.n ∧ p.d = q.d) ∧ p.ms = q.ms := by
  cases p; cases q; simp [and_assoc]
theorem wd_aks {l : List Ak} (h : WD (aks l)) : l.length ≤ 9223372036854775807 := by
  obtain ⟨h1, _, h3⟩ := WD_list.1 h
  simpa using h1
abbrev retD (x : Md × Rp × Int) : DV := .tup [x.1.dc, x.2.1.dc, .one (i64 x.2.2)]
end Go.Proofs.Ytnjgfhgpicmklaa

namespace Go.Proofs.Ytnjgfhgpicmklaa
open Go Go.RowKit Sx
namespace Sx
def shAsk : Sh := .st (.fc 1 (.int .u8) (.fc 3 shPoint (.fc 1 shInt (.fc 2 shRatio .f0))))
def shAsks : Sh := .sl 7 shAsk
end Sx
theorem fits_ask {ds : List D} (h : Fits shAsk ds) : ∃ a : Ak, ds = a.c := by
  obtain ⟨_, _, rfl, ⟨k, rfl⟩, _, _, rfl, h2, _, _, rfl, ⟨i, rfl⟩, _, _, rfl, h3, rfl⟩ := h
  obtain ⟨p, rfl⟩ := fits_point h2
  obtain ⟨n, d, rfl⟩ := fits_ratio h3
  exact ⟨⟨k, p, i, n, d⟩, rfl⟩
theorem fit_asks {c : DC} (h : FitC shAsks c) : ∃ l : List Ak, c = .one (aks l) := by
  obtain ⟨d, rfl, l, e, h2⟩ := h
  injection e with e
  subst e
  obtain ⟨l', rfl⟩ := exists_map (f := Ak.c) fun x hx => fits_ask (h2 x hx)
  exact ⟨l', rfl⟩
end Go.Proofs.Ytnjgfhgpicmklaa

namespace Go.Proofs.Ytnjgfhgpicmklaa
open Go.RowKit Go.Sort Sx Go.Maps
def cntTo (es : List Int) (n : Nat) : List (Int × Int) := ((List.range n).filter fun k : Nat => decide (0 < es.count (k : Int))).map fun k : Nat => ((k : Int), (es.count (k : Int) : Int))
def cnts (es : List Int) : List (Int × Int) := cntTo es 100
abbrev prc (l : List (Int × Int)) : List (List Sx.D) := l.map fun p => [i64 p.1, i64 p.2]
theorem cntTo_succ (es : List Int) (n : Nat) : cntTo es (n + 1) = cntTo es n ++ if 0 < es.count (n : Int) then [((n : Int), (es.count (n : Int) : Int))] else [] := by
  unfold cntTo
  rw [List.range_succ, List.filter_append, List.map_append]
  congr 1
  by_cases h : 0 < es.count (n : Int)
  · rw [if_pos h, List.filter_cons_of_pos (by simpa using h)]; rfl
  · rw [if_neg h, List.filter_cons_of_neg (by simpa using h)]; rfl
theorem cntTo_len (es : List Int) (n : Nat) : (cntTo es n).length ≤ n := by
  unfold cntTo
  rw [List.length_map]
  exact Nat.le_trans (List.length_filter_le ..) (by rw [List.length_range]; exact Nat.le_refl _)
theorem count_take_le (es : List Int) (x : Int) (i : Nat) : (es.take i).count x ≤ es.length := by
  have h := List.count_le_length (a := x) (l := es.take i)
  rw [List.length_take] at h
  omega
def keysS (es : List Int) : List Int := ((List.range 100).filter fun k : Nat => decide (0 < es.count (k : Int))).map fun k : Nat => (k : Int)
theorem cnts_keys (es : List Int) : (keysS es).map (fun x => (x, (es.count x : Int))) = cnts es := by
  unfold keysS cnts cntTo
  rw [List.map_map]; rfl
theorem keysS_asc (es : List Int) : (keysS es).Pairwise (· < ·) := by
  unfold keysS
  rw [List.pairwise_map]
  refine List.Pairwise.imp (R := fun a b : Nat => a < b) (fun h => by omega) ?_
  exact List.Pairwise.filter _ List.pairwise_lt_range
theorem keysS_mem {es : List Int} (h : ∀ e ∈ es, 0 ≤ e ∧ e < 100) (x : Int) : x ∈ keysS es ↔ x ∈ es := by
  unfold keysS
  rw [List.mem_map]
  constructor
  · rintro ⟨k, hk, rfl⟩
    rw [List.mem_filter, decide_eq_true_eq] at hk
    exact List.count_pos_iff.1 hk.2
  · intro hx
    obtain ⟨h1, h2⟩ := h x hx
    refine ⟨x.toNat, ?_, by omega⟩
    rw [List.mem_filter, decide_eq_true_eq, List.mem_range]
    refine ⟨by omega, ?_⟩
    rw [show ((x.toNat : Nat) : Int) = x by omega]
    exact List.count_pos_iff.2 hx
theorem keysS_len (es : List Int) : (keysS es).length ≤ 100 := by
  unfold keysS
  rw [List.length_map]
  exact Nat.le_trans (List.length_filter_le ..) (by rw [List.length_range]; exact Nat.le_refl _)
def Cnt (D : DataW Unit) (l : List Int) : Prop := (∀ x : Int, D.atKey (.int .i64 x) (.lit (.int .i64 0)) = .lit (.int .i64 (l.count x : Nat))) ∧ ∀ x : Int, Maps.has D (.int .i64 x) = decide (x ∈ l)
theorem cnt_nil : Cnt (.map []) [] := ⟨fun x => Maps.atKey_of_not_has rfl _, fun x => rfl⟩
theorem cnt_snoc {D : DataW Unit} {l : List Int} (h : Cnt D l) (hm : Maps.IsMap D) (x : Int) (c : Int) (hc : c = l.count x) : Cnt (D.put (.int .i64 x) (.lit (.int .i64 (c + 1)))) (l ++ [x]) := by
  subst hc
  have hk : WideAt.IsKeyLit (.int .i64 x) := by first | exact trivial | exact rfl | constructor
  refine ⟨fun y => ?_, fun y => ?_⟩
  · rw [List.count_append, List.count_singleton]
    by_cases e : y = x
    · subst e
      rw [Maps.atKey_put_same hm hk, beq_self_eq_true, if_pos rfl]; rfl
    · rw [Maps.atKey_put_other (by simpa using e), h.1 y]
      have : (x == y) = false := by simpa using fun h => e h.symm
      rw [this]; simp
  · by_cases e : y = x
    · subst e
      rw [Maps.has_put_same hm hk]; simp
    · rw [Maps.has_put_other (by simpa using e), h.2 y]
      simp [e]
theorem keys_sorted {es ss : List Int} {P : Program} {k : TypeId} {R : Value → Option (DataW Unit × List MemPlace)} {w : World} {b n : Nat} {D : DataW Unit} (hown : w.ownsMap P k R b n D) (K : Keyed P k) (hk : P.underlying k = some (.int .i64)) (hc : Cnt D es) (h : ∀ e ∈ es, 0 ≤ e ∧ e < 100) (hs : ss.Perm (intKeys D)) : ss.mergeSort (fun x y => decide (x ≤ y)) = keysS es ∧ ss.length = (keysS es).length := by
  have hcol : CollectedI D (fun _ => false) (keysS es) := ⟨(keysS_asc es).imp (fun h => by omega), fun x => by rw [keysS_mem h, hc.2]; simp⟩
  have hp := hcol.perm hown K hk (fun _ => rfl)
  have hp2 := hs.trans hp.symm
  refine ⟨?_, hp2.length_eq⟩
  have e := mergeSort_of_perm_i hp2
  unfold leI at e
  rw [e]
  exact List.mergeSort_of_pairwise ((keysS_asc es).imp fun h => by simp only [decide_eq_true_eq]; omega)
theorem size_le {P : Program} {k : TypeId} {R : Value → Option (DataW Unit × List MemPlace)} {w : World} {b n : Nat} {D : DataW Unit} (hown : w.ownsMap P k R b n D) : Maps.size D ≤ n := by
  obtain ⟨es, clock, _, _, hs, rfl⟩ := hown
  show ((es.toList.map _).foldr DataW.insert []).length ≤ n
  rw [length_sorted]
  simpa using hs
end Go.Proofs.Ytnjgfhgpicmklaa

namespace Go.Proofs
open Go.Shelf
def Try.cntKeys_ren : Go.Shelf.Ren := ⟨fun | 7 => 50 | 10 => 75 | n => n, fun | 23 => 100 | 26 => 32 | 3 => 3 | 28 => 103 | 0 => 0 | 27 => 102 | 33 => 99 | 4 => 4 | n => n, fun | n => n⟩
theorem Try.cntKeys : Go.Proofs.SlLaysZI.n7 Try.prog Try.cntKeys_ren := {
  mixed := by kernel_rfl
  f7 := ⟨Try.f50.name, by decide, Try.func50.trans (congrArg some (by kernel_rfl))⟩
  f10 := ⟨Try.f75.name, by decide, Try.func75.trans (congrArg some (by kernel_rfl))⟩
  t0 := Try.underlying0
  a0 := Try.isAgg0
  z0 := Try.sizeOf0
  v0 := Try.zeroValue0
  t4 := Try.underlying4
  a4 := Try.isAgg4
  z4 := Try.sizeOf4
  v4 := Try.zeroValue4
  t23 := Try.underlying100
  a23 := Try.isAgg100
  z23 := Try.sizeOf100
  v23 := Try.zeroValue100
  t26 := Try.underlying32
  a26 := Try.isAgg32
  z26 := Try.sizeOf32
  v26 := Try.zeroValue32
  t27 := Try.underlying102
  a27 := Try.isAgg102
  z27 := Try.sizeOf102
  v27 := Try.zeroValue102
  t28 := Try.underlying103
  a28 := Try.isAgg103
  z28 := Try.sizeOf103
  v28 := Try.zeroValue103
  t33 := Try.underlying99
  a33 := Try.isAgg99
  z33 := Try.sizeOf99
  v33 := Try.zeroValue99 }
def Try.cntSorted_ren : Go.Shelf.Ren := ⟨fun | 6 => 49 | 8 => 73 | 9 => 74 | 11 => 93 | 13 => 95 | 12 => 94 | 23 => 115 | 24 => 116 | 14 => 106 | 15 => 107 | 16 => 108 | 17 => 109 | 18 => 110 | 19 => 111 | 20 => 112 | 21 => 113 | 22 => 114 | 25 => 120 | 26 => 121 | 27 => 122 | 28 => 123 | 29 => 124 | 30 => 125 | 31 => 127 | n => n, fun | 26 => 32 | 28 => 103 | 24 => 66 | 0 => 0 | 3 => 3 | 37 => 152 | 48 => 170 | 50 => 112 | 4 => 4 | 40 => 163 | 39 => 162 | 45 => 143 | 5 => 5 | 9 => 9 | 51 => 173 | 55 => 177 | 57 => 180 | 58 => 181 | 33 => 99 | n => n, fun | n => n⟩
theorem Try.cntSorted : Go.Proofs.SlLaysZI.n6 Try.prog Try.cntSorted_ren := {
  mixed := by kernel_rfl
  f6 := ⟨Try.f49.name, by decide, Try.func49.trans (congrArg some (by kernel_rfl))⟩
  f8 := ⟨Try.f73.name, by decide, Try.func73.trans (congrArg some (by kernel_rfl))⟩
  f11 := ⟨Try.f93.name, by decide, Try.func93.trans (congrArg some (by kernel_rfl))⟩
  t0 := Try.underlying0
  a0 := Try.isAgg0
  z0 := Try.sizeOf0
  v0 := Try.zeroValue0
  t24 := Try.underlying66
  a24 := Try.isAgg66
  z24 := Try.sizeOf66
  v24 := Try.zeroValue66
  t26 := Try.underlying32
  a26 := Try.isAgg32
  z26 := Try.sizeOf32
  v26 := Try.zeroValue32
  t28 := Try.underlying103
  a28 := Try.isAgg103
  z28 := Try.sizeOf103
  v28 := Try.zeroValue103
  i26 := by kernel_rfl }
def Try.cntSort_ren : Go.Shelf.Ren := ⟨fun | 5 => 74 | 8 => 95 | 7 => 94 | 19 => 115 | 20 => 116 | 10 => 106 | 11 => 107 | 12 => 108 | 13 => 109 | 14 => 110 | 15 => 111 | 16 => 112 | 17 => 113 | 18 => 114 | 30 => 120 | 31 => 121 | 32 => 122 | 33 => 123 | 34 => 124 | 35 => 125 | 40 => 127 | n => n, fun | 23 => 66 | 25 => 32 | 3 => 3 | 32 => 152 | 22 => 66 | 0 => 0 | 44 => 170 | 46 => 112 | 4 => 4 | 36 => 163 | 35 => 162 | 41 => 143 | 5 => 5 | 9 => 9 | 53 => 173 | 57 => 177 | 63 => 180 | 64 => 181 | n => n, fun | n => n⟩
theorem Try.cntSort : Go.Proofs.SlLaysM.n5 Try.prog Try.cntSort_ren := {
  mixed := by kernel_rfl
  f5 := ⟨Try.f74.name, by decide, Try.func74.trans (congrArg some (by kernel_rfl))⟩
  f7 := ⟨Try.f94.name, by decide, Try.func94.trans (congrArg some (by kernel_rfl))⟩
  f8 := Try.func95.trans (congrArg some (by kernel_rfl))
  f10 := ⟨Try.f106.name, by decide, Try.func106.trans (congrArg some (by kernel_rfl))⟩
  f11 := ⟨Try.f107.name, by decide, Try.func107.trans (congrArg some (by kernel_rfl))⟩
  f12 := ⟨Try.f108.name, by decide, Try.func108.trans (congrArg some (by kernel_rfl))⟩
  f13 := ⟨Try.f109.name, by decide, Try.func109.trans (congrArg some (by kernel_rfl))⟩
  f14 := ⟨Try.f110.name, by decide, Try.func110.trans (congrArg some (by kernel_rfl))⟩
  f15 := ⟨Try.f111.name, by decide, Try.func111.trans (congrArg some (by kernel_rfl))⟩
  f16 := ⟨Try.f112.name, by decide, Try.func112.trans (congrArg some (by kernel_rfl))⟩
  f17 := ⟨Try.f113.name, by decide, Try.func113.trans (congrArg some (by kernel_rfl))⟩
  f18 := ⟨Try.f114.name, by decide, Try.func114.trans (congrArg some (by kernel_rfl))⟩
  f19 := Try.func115.trans (congrArg some (by kernel_rfl))
  f20 := Try.func116.trans (congrArg some (by kernel_rfl))
  f30 := ⟨Try.f120.name, by decide, Try.func120.trans (congrArg some (by kernel_rfl))⟩
  f31 := Try.func121.trans (congrArg some (by kernel_rfl))
  f32 := Try.func122.trans (congrArg some (by kernel_rfl))
  f33 := ⟨Try.f123.name, by decide, Try.func123.trans (congrArg some (by kernel_rfl))⟩
  f34 := ⟨Try.f124.name, by decide, Try.func124.trans (congrArg some (by kernel_rfl))⟩
  f35 := ⟨Try.f125.name, by decide, Try.func125.trans (congrArg some (by kernel_rfl))⟩
  f40 := ⟨Try.f127.name, by decide, Try.func127.trans (congrArg some (by kernel_rfl))⟩
  t0 := Try.underlying0
  a0 := Try.isAgg0
  z0 := Try.sizeOf0
  v0 := Try.zeroValue0
  t3 := Try.underlying3
  a3 := Try.isAgg3
  z3 := Try.sizeOf3
  v3 := Try.zeroValue3
  t4 := Try.underlying4
  a4 := Try.isAgg4
  z4 := Try.sizeOf4
  v4 := Try.zeroValue4
  t5 := Try.underlying5
  a5 := Try.isAgg5
  z5 := Try.sizeOf5
  v5 := Try.zeroValue5
  t9 := Try.underlying9
  a9 := Try.isAgg9
  z9 := Try.sizeOf9
  v9 := Try.zeroValue9
  t22 := Try.underlying66
  a22 := Try.isAgg66
  z22 := Try.sizeOf66
  v22 := Try.zeroValue66
  t23 := Try.underlying66
  a23 := Try.isAgg66
  z23 := Try.sizeOf66
  v23 := Try.zeroValue66
  t25 := Try.underlying32
  a25 := Try.isAgg32
  z25 := Try.sizeOf32
  v25 := Try.zeroValue32
  t32 := Try.underlying152
  a32 := Try.isAgg152
  z32 := Try.sizeOf152
  v32 := Try.zeroValue152
  t35 := Try.underlying162
  a35 := Try.isAgg162
  z35 := Try.sizeOf162
  v35 := Try.zeroValue162
  t36 := Try.underlying163
  a36 := Try.isAgg163
  z36 := Try.sizeOf163
  v36 := Try.zeroValue163
  t41 := Try.underlying143
  a41 := Try.isAgg143
  z41 := Try.sizeOf143
  v41 := Try.zeroValue143
  t44 := Try.underlying170
  a44 := Try.isAgg170
  z44 := Try.sizeOf170
  v44 := Try.zeroValue170
  t46 := Try.underlying112
  a46 := Try.isAgg112
  z46 := Try.sizeOf112
  v46 := Try.zeroValue112
  t53 := Try.underlying173
  a53 := Try.isAgg173
  z53 := Try.sizeOf173
  v53 := Try.zeroValue173
  t57 := Try.underlying177
  a57 := Try.isAgg177
  z57 := Try.sizeOf177
  v57 := Try.zeroValue177
  t63 := Try.underlying180
  a63 := Try.isAgg180
  z63 := Try.sizeOf180
  v63 := Try.zeroValue180
  t64 := Try.underlying181
  a64 := Try.isAgg181
  z64 := Try.sizeOf181
  v64 := Try.zeroValue181 }
end Go.Proofs

namespace Go.Proofs.Ytnjgfhgpicmklaa
open Go Go.RowKit Go.Sort Sx Go.Maps
theorem calls_of_fnok {P : Program} {f : Nat} {args : List DC} {r : DV} (H : FnOK P f args r) {w : World} {M : Nat → Prop} {vs : List Value} (hM : ∀ b, M b → b < w.heap.size) (hvs : DCsR w M args vs) (hcall : (callFunc f vs.toArray).run P w = .ok (.enter f vs.toArray) w) :
    Calls P f vs.toArray w fun e w' => ∃ v, e = .returned v ∧ DVR w' M r v ∧ Below w.heap.size w w' := by
  rcases H w M vs hM hvs with ⟨g, hg, hc⟩ | ⟨v, hg, _⟩
  · have := hcall.symm.trans hg
    injection this with h1 h2
    injection h1 with h1
    subst h1; exact hc
  · have := hcall.symm.trans hg
    injection this with h1 h2
    cases h1
theorem rep_i64 {w : World} {M : Nat → Prop} {n : Int} {v : Value} (h : Rep w M (i64 n) v) : v = .int .i64 n := by
  cases h; rfl
abbrev intc (l : List Int) : Sx.D := .list 1 (l.map fun i => [i64 i])
theorem rep_ints {w : World} {M : Nat → Prop} {es : List Int} {v : Value} (h0 : es ≠ []) (h : Rep w M (intc es) v) : ∃ b off cap, v = .slice (some ⟨b, off, none⟩) es.length cap ∧ b < w.heap.size ∧ (∀ i (hi : i < es.length), w.cell? ⟨b, off + i, none⟩ = some (.int .i64 es[i])) ∧ ∀ e ∈ es, inK .i64 e := by
  have hwd := h.wd
  obtain ⟨l, hl⟩ : ∃ l : List (List Sx.D), l = es.map fun i => [i64 i] := ⟨_, rfl⟩
  have hll : l.length = es.length := by rw [hl, List.length_map]
  have hw : ∀ e ∈ es, inK .i64 e := fun e he => WD_v.1 ((WD_list.1 hwd).2.2 [i64 e] (List.mem_map.2 ⟨e, he, rfl⟩) (i64 e) (List.mem_singleton.2 rfl))
  have h' : Rep w M (.list 1 l) v := by rw [hl]; exact h
  clear h hwd
  cases h' with
  | nil k x c hm hx =>
    exact absurd (List.eq_nil_of_length_eq_zero (by rw [← hll]; rfl)) h0
  | @list b off cap k l vs hc hm hMb hb hk hv hr =>
    refine ⟨b, off, cap, by rw [hll], hb, fun i hi => ?_, hw⟩
    have hi' : i < l.length := by omega
    have h1 := hv i 0 hi' (by decide)
    have e1 : l[i] = [i64 es[i]] := by subst hl; rw [List.getElem_map]
    have h2 := hr i 0 hi' (by rw [e1]; exact Nat.zero_lt_one)
    have e2 : l[i][0]'(by rw [e1]; exact Nat.zero_lt_one) = i64 es[i] := by simp only [e1]; rfl
    rw [e2] at h2
    rw [rep_i64 h2] at h1
    simpa using h1
theorem errLaw : Keyed Try.prog 32 := int_keyed Try.underlying32
theorem zeroI (w : World) : (zeroValue 3).run Try.prog w = .ok (.int .i64 0) w := by kernel_rfl
theorem cntSorts (m : Nat) : AnyZI.SortsIn Try.prog Try.cntSorted_ren Fence.wide m :=
  ⟨fun blk off cap ss W hH hblk hsz => callsIn_wide.2 (AnyM.slices_Sort_int Try.cntSort blk off cap ss W hH hblk hsz), fun p cap W => callsIn_wide.2 (AnyM.slices_Sort_int_none Try.cntSort p cap W)⟩
theorem cntKeys_call (mb : Option Nat) (W : World) : Calls Try.prog 50 #[.map mb] W fun e w' => e = .returned (.func (.func 75) #[] #[.pointer (some ⟨W.heap.size, 0, none⟩)]) ∧ w' = W.alloc (.cells #[.map mb] 100) :=
  (callsIn_wide (n := 5)).1 (AnyZI.keys_in Try.cntKeys Fence.wide 5 trivial rfl mb W)
set_option maxHeartbeats 1000000 in
theorem cntSorted_call {b nn : Nat} {D : DataW Unit} {R : Value → Option (DataW Unit × List MemPlace)} {w : World} {es : List Int} (hown : w.ownsMap Try.prog 32 R b nn D) (hC : Cnt D es) (hr : ∀ e ∈ es, 0 ≤ e ∧ e < 100) (hn : nn ≤ 1000) :
    Calls Try.prog 49 #[.func (.func 75) #[] #[.pointer (some ⟨w.heap.size, 0, none⟩)]] (w.alloc (.cells #[.map (some b)] 100)) fun e w' => ∃ v, e = .returned v ∧ w'.ownsRow (w.heap.size + 1) 32 1 v (keysS es).length ((keysS es).map encZ) ∧ Below (w.heap.size + 1) (w.alloc (.cells #[.map (some b)] 100)) w' := by
  refine (callsIn_wide (n := 5)).1 ?_
  have hbl := hown.lt
  have hsz := size_le hown
  have hsz' : (w.alloc (.cells #[.map (some b)] 100)).heap.size = w.heap.size + 1 := World.size_alloc ..
  have hseq : SeqGives Fence.wide 2 Try.prog 75 #[.pointer (some ⟨w.heap.size, 0, none⟩)] encZ (fun ss => ss.Perm (intKeys D)) (Maps.size D) (w.alloc (.cells #[.map (some b)] 100)) :=
    AnyZI.keys_gives (ρ := Try.cntKeys_ren) { Try.cntKeys with } Fence.wide _ trivial rfl (by omega) w.heap.size b nn D _ (by simp) (by simp) (by
      obtain ⟨es, clock, hb, Ft, hs, hD⟩ := hown
      exact ⟨es, clock, (Below.heap_alloc _ _ b hbl).trans hb, Ft, hs, hD⟩)
  have cS := AnyZI.sorted_in Try.cntSorted Fence.wide 5 trivial trivial trivial trivial rfl (by omega) (cntSorts _) (enters_of Try.func74 (by kernel_rfl) rfl) 75 #[.pointer (some ⟨w.heap.size, 0, none⟩)] trivial (enters_of Try.func75 (by kernel_rfl) rfl) _ _ (by unfold maxLen; omega) (by omega) _ hseq
  change CallsIn _ _ Try.prog 49 _ _ _ at cS
  refine cS.mono ?_
  rintro e w' ⟨v, ss, rfl, hS, hrow, hnil, hb⟩
  obtain ⟨k1, k2⟩ := keys_sorted hown errLaw Try.underlying32 hC hr hS
  rw [k1, k2, hsz'] at hrow
  rw [hsz'] at hb
  exact ⟨v, rfl, hrow, hb⟩
abbrev prv (l : List (Int × Int)) : List Value := l.flatMap fun p => [.int .i64 p.1, .int .i64 p.2]
theorem prv_len : ∀ (l : List (Int × Int)), (prv l).length = l.length * 2
  | [] => rfl
  | p :: l => by
    have := prv_len l
    unfold prv at this ⊢
    rw [List.flatMap_cons, List.length_append, this]
    simp only [List.length_cons, List.length_nil]; omega
theorem prv_ds {w : World} {M : Nat → Prop} : ∀ {l : List (Int × Int)}, (∀ p ∈ l, inK .i64 p.1 ∧ inK .i64 p.2) → DsR w M (prc l).flatten (prv l)
  | [], _ => trivial
  | p :: l, h => by
    obtain ⟨h1, h2⟩ := h p (List.mem_cons_self ..)
    exact ⟨.v _ rfl h1, .v _ rfl h2, prv_ds fun x hx => h x (List.mem_cons_of_mem _ hx)⟩
theorem rep_owns {w : World} {M : Nat → Prop} {base : Nat} {e : TypeId} {v : Value} {l : List (Int × Int)} (h : w.ownsRow base e 2 v l.length (prv l)) (hM : ∀ b, M b → b < base) (hl : ∀ p ∈ l, inK .i64 p.1 ∧ inK .i64 p.2) : Rep w M (.list 2 (prc l)) v := by
  rcases h.2 with ⟨rfl, h0⟩ | ⟨g, cap, cur, rfl, hb, hgb, h1, h2, h3, h4⟩
  · have hl0 : l = [] := List.eq_nil_of_length_eq_zero h0
    subst hl0
    exact .nil 2 none 0 (by omega) (fun _ => rfl)
  · have hlen := prv_len l
    have hg : g < w.heap.size := (Array.getElem?_eq_some_iff.1 hgb).1
    have hll : (prc l).length = l.length := List.length_map ..
    rw [← hll]
    refine rep_of_row (us := prv l) (fun x hx => ?_) (prv_ds hl) (fun i hi => ?_) (by rw [hll]; exact h1) (by unfold maxLen at h2; omega) (fun h => by have := hM _ h; omega) hg
    · obtain ⟨p, _, rfl⟩ := List.mem_map.1 hx; rfl
    · rw [Nat.zero_add]
      simp only [World.cell?, hgb]
      have : (cur.toList.take (l.length * 2))[i]? = (prv l)[i]? := by rw [h4]
      rw [List.getElem?_take_of_lt (by omega)] at this
      simpa using this
theorem owns_cell {w : World} {base : Nat} {e : TypeId} {v : Value} {S : List Int} (h0 : S ≠ []) (h : w.ownsRow base e 1 v S.length (S.map encZ)) : ∃ g cap, v = .slice (some ⟨g, 0, none⟩) S.length cap ∧ g < w.heap.size ∧ ∀ i (hi : i < S.length), w.cell? ⟨g, i, none⟩ = some (.int .i64 S[i]) := by
  rcases h.2 with ⟨rfl, hz⟩ | ⟨g, cap, cur, rfl, hb, hgb, h1, h2, h3, h4⟩
  · exact absurd (List.eq_nil_of_length_eq_zero hz) h0
  · refine ⟨g, cap, rfl, (Array.getElem?_eq_some_iff.1 hgb).1, fun i hi => ?_⟩
    simp only [World.cell?, hgb]
    have : (cur.toList.take (S.length * 1))[i]? = (S.map encZ)[i]? := by rw [h4]
    rw [List.getElem?_take_of_lt (by omega), List.getElem?_map, List.getElem?_eq_getElem hi] at this
    simpa using this
theorem owns_none {w : World} {base : Nat} {e : TypeId} {v : Value} {xs : List Value} (h : w.ownsRow base e 1 v 0 xs) : ∃ x c, v = .slice x 0 c := by
  rcases h.2 with ⟨rfl, hz⟩ | ⟨g, cap, cur, rfl, hb, hgb, h1, h2, h3, h4⟩
  · exact ⟨_, _, rfl⟩
  · exact ⟨_, _, rfl⟩
theorem owns_below {w w' : World} {P : Program} {k : TypeId} {R : Value → Option (DataW Unit × List MemPlace)} {b n : Nat} {D : DataW Unit} {B : Nat} (h : w.ownsMap P k R b n D) (hb : b < B) (hB : Below B w w') : w'.ownsMap P k R b n D := by
  obtain ⟨es, clock, he, F, hs, hD⟩ := h
  exact ⟨es, clock, (hB.block b hb).trans he, F, hs, hD⟩
theorem two_cells (W : World) (T : TypeId) (a b : Value) : ∀ (j : Nat) (u : Value), ([a, b] : List Value)[j]? = some u → (W.alloc (.cells #[a, b] T)).cell? ((⟨W.heap.size, 0, none⟩ : Addr).add j) = some u := fun j u hj => by
  have hn := World.alloc_heap_new W (.cells #[a, b] T)
  rw [Sx.add_plain, Nat.zero_add]
  simp only [World.cell?, hn]
  simpa using hj
set_option maxRecDepth 100000 in
set_option maxHeartbeats 4000000 in
theorem qCounts_ne {d1 d2 d3 al : Sx.D} {es : List Int} (HE : FnOK Try.prog 24 [.agg [d1, d2, d3], .one al] (.tup [.one (intc es), .one (i64 0)])) (hr : ∀ e ∈ es, 0 ≤ e ∧ e < 100) (hlen : es.length ≤ 1000) (h0 : es ≠ []) : FnOK Try.prog 27 [.agg [d1, d2, d3], .one al] (.tup [.one (.list 2 (prc (cnts es))), .one (i64 0)]) := by
  refine fun w M vs hM hvs => .inl ⟨27, Try.call27 _ _, ?_⟩
  match vs, hvs with
  | [u, lv], ⟨⟨us, e, hus⟩, hlv, _⟩ =>
    subst e
    match us, hus with
    | [xa, xb, xc], ⟨ha, hb, hc, _⟩ =>
      have o1 := Rep.one ha
      have o2 := Rep.one hb
      have o3 := Rep.one hc
      have o4 := Rep.one hlv
      obtain ⟨W1, hW1⟩ : ∃ W1, W1 = w.alloc (.cells #[xa, xb, xc] 28) := ⟨_, rfl⟩
      have hB1 : Below w.heap.size w W1 := by rw [hW1]; exact (Below.refl _ _).alloc (Nat.le_refl _) _
      have hho := Holds.of_below (M := M) hB1
      have hid : ∀ b, b < w.heap.size → M b → M b := fun _ _ h => h
      have HC : Calls Try.prog 24 #[.agg #[xa, xb, xc], lv] W1 fun e w' => ∃ b off cap, e = .returned (.tuple #[.slice (some ⟨b, off, none⟩) es.length cap, .int .i64 0]) ∧ b < w'.heap.size ∧ (∀ i (hi : i < es.length), w'.cell? ⟨b, off + i, none⟩ = some (.int .i64 es[i])) ∧ (∀ e ∈ es, inK .i64 e) ∧ Below w.heap.size w w' := by
        refine (calls_of_fnok HE (w := W1) (M := M) (vs := [.agg #[xa, xb, xc], lv]) (fun b hb => Nat.lt_of_lt_of_le (hM b hb) hB1.size) ⟨⟨[xa, xb, xc], rfl, ha.mono hho hid, hb.mono hho hid, hc.mono hho hid, trivial⟩, hlv.mono hho hid, trivial⟩ (Try.call24 _ _)).mono ?_
        rintro e w' ⟨v, rfl, ⟨us, rfl, hus⟩, hb⟩
        match us, hus with
        | [x, y], ⟨hx, hy, _⟩ =>
          obtain ⟨b, off, cap, rfl, h1, h2, h3⟩ := rep_ints h0 hx
          obtain rfl := rep_i64 hy
          exact ⟨b, off, cap, rfl, h1, h2, h3, hB1.trans (hb.mono hB1.size)⟩
      have hS0 : keysS es ≠ [] := fun e => by
        cases es with
        | nil => exact h0 rfl
        | cons x r =>
          have := (keysS_mem hr x).2 (List.mem_cons_self ..)
          rw [e] at this; cases this
      have hSl := keysS_len es
      have hmm := @run_makeMap Try.prog
      clear HE ha hb hc hlv
      go_enter Try.func27, Try.ntmps27
      subst hW1
      go_wp2_with (go_at_call 24; refine HC.mono ?_; rintro e w2 ⟨b, off, cap, rfl, hbl, hcell, hwf, hB2⟩)
      go_loopw [26] (fun i wr => ∃ (k : Nat) (D : DataW Unit), k ≤ es.length ∧ i = .int .i64 k ∧ wr.ownsMap Try.prog 32 (plainElem Try.prog 3) w2.heap.size k D ∧ Cnt D (es.take k) ∧ Below w2.heap.size w2 wr) (fun i _ => es.length - (intOf i).toNat)
      case atStart => exact ⟨0, .map [], Nat.zero_le _, rfl, World.ownsMap_made _ _ _ _, cnt_nil, (Below.refl _ _).alloc (Nat.le_refl _) _⟩
      case round =>
        obtain ⟨k, D, hk, rfl, hown, hC, hnx⟩ := hrel
        rcases Nat.lt_or_ge k es.length with hlt | hge
        · have hcx := (hnx.cell (by exact hbl)).trans (hcell k hlt)
          have hxw := hwf _ (List.getElem_mem hlt)
          have htk : es.take (k + 1) = es.take k ++ [es[k]] := List.take_succ_eq_append_getElem hlt
          generalize es[k] = x at *
          have hkey : keyOf Try.prog 32 (.int .i64 x) = some (.int .i64 x) := keyOf_int_mk Try.underlying32 (WalkArith.wf_i64 hxw)
          go_wp2_with (first
            | (at_lookup; refine wpList_lookup_own_int _ rfl _ _ 100 rfl 32 3 .i64 errLaw Try.underlying100 Try.underlying3 (zeroI _) w2.heap.size k _ rfl hown _ _ rfl hkey ?_; intro c hat hwc)
            | (at_mapUpdate; refine wpList_mapUpdate_own _ rfl _ _ _ 100 rfl 32 3 errLaw Try.underlying100 _ w2.heap.size k _ rfl hown (by unfold maxLen; omega) _ _ _ rfl rfl hkey _ [] (plainElem_int Try.underlying3 (wrap64_wf _)) ?_; intro w1 hown1 hgrow1)
            | go_in)
          have hcc : c = ((es.take k).count x : Nat) := by
            have := (hC.1 x).symm.trans hat
            injection this with this; injection this with _ this; exact this.symm
          have hcb := count_take_le es x k
          have hwr : wrap64 (c + 1) = c + 1 := IntWalk.wrap64_in _ (by omega)
          rw [hwr] at hown1
          go_roundw
          case rel => exact ⟨k + 1, _, by omega, by go_num, hown1, htk ▸ cnt_snoc hC hown.isMap x c hcc, hnx.grown hgrow1 hnx.size (fun j hj => by cases hj; exact Nat.le_refl _)⟩
          case measure => simp [intOf]; omega
        · obtain rfl : k = es.length := by omega
          rw [List.take_length] at hC
          go_wp2_with (first
            | (go_at_call 50; refine (cntKeys_call _ _).mono ?_; rintro e w3 ⟨rfl, rfl⟩)
            | (go_at_call 49; refine (cntSorted_call hown hC hr hlen).mono ?_; rintro e w5 ⟨sv, rfl, hrow, hB5⟩; obtain ⟨g, gc, rfl, hgl, hgc⟩ := owns_cell hS0 hrow))
          have hB25 : Below w.heap.size w w5 := hB2.trans ((hnx.trans ((((Below.refl _ wr).alloc (Nat.le_refl _) _).trans (hB5.mono (Nat.le_succ _))).mono hnx.size)).mono hB2.size)
          have hown5 : w5.ownsMap Try.prog 32 (plainElem Try.prog 3) w2.heap.size es.length D := owns_below (hown.alloc (.cells #[.map (some w2.heap.size)] 100)) (Nat.lt_succ_of_lt hown.lt) hB5
          have hml : w2.heap.size < w5.heap.size := hown5.lt
          clear hown hrow
          have hSr : ∀ x ∈ keysS es, 0 ≤ x ∧ x < 100 := fun x hx => hr x ((keysS_mem hr x).1 hx)
          have hck : (keysS es).map (fun x => (x, (es.count x : Int))) = cnts es := cnts_keys es
          have hcl : ∀ x : Int, es.count x ≤ 1000 := fun x => Nat.le_trans List.count_le_length hlen
          generalize keysS es = S at *
          obtain ⟨f, hf⟩ : ∃ f : Int → Int × Int, f = fun x => (x, (es.count x : Int)) := ⟨_, rfl⟩
          rw [← hf] at hck
          obtain ⟨e, he, hsz, _, _, ti, z, hi0, hsz0, hz0, hzs, _, hby⟩ := (ty_ok 71 (.sl 2 true [.v (.int .i64 0), .v (.int .i64 0)]) rfl).2.2.2
          have hee : e = 75 := by
            have := he.symm.trans Try.underlying71
            injection this with this; injection this
          subst hee
          go_loopw [11, 39] (fun v i wr => ∃ k : Nat, k ≤ S.length ∧ i = .int .i64 k ∧ wr.ownsRow w5.heap.size 75 2 v k (prv ((S.take k).map f)) ∧ Below w5.heap.size w5 wr) (fun _ i _ => S.length - (intOf i).toNat)
          case atStart => exact ⟨0, Nat.zero_le _, rfl, ⟨rfl, .inl ⟨rfl, rfl⟩⟩, Below.refl _ _⟩
          case round =>
            obtain ⟨k, hk, rfl, hrw, hnx5⟩ := hrel
            rcases Nat.lt_or_ge k S.length with hlt | hge
            · have hcx := (hnx5.cell (by exact hgl)).trans (hgc k hlt)
              have hown6 := owns_below hown5 hml hnx5
              have hxr := hSr _ (List.getElem_mem hlt)
              have htk : (S.take (k + 1)).map f = (S.take k).map f ++ [f S[k]] := by rw [List.take_succ_eq_append_getElem hlt, List.map_append]; rfl
              generalize S[k] = x at *
              have hkey : keyOf Try.prog 32 (.int .i64 x) = some (.int .i64 x) := keyOf_int_mk Try.underlying32 (WalkArith.wf_i64 (by omega))
              have o4 : ∀ c : Int, ∀ u ∈ ([.int .i64 x, .int .i64 c] : List Value), u.oneCell' = true := by simp [Value.oneCell']
              have b1 : k + 1 ≤ maxLen := by unfold maxLen; omega
              have b2 : (k + 1) * ti.bytes ≤ 140737488355328 := by
                have : (k + 1) * ti.bytes ≤ 1001 * 65536 := Nat.mul_le_mul (by omega) hby
                omega
              have cM := fun c : Int => two_cells wr 75 (.int .i64 x) (.int .i64 c)
              have b3 : ∀ o, w5.heap.size ≤ (wr.alloc o).heap.size := fun o => by have := hnx5.size; rw [World.size_alloc]; omega
              go_wp2_with (first
                | (at_lookup; refine wpList_lookup_own_int _ rfl _ _ 100 rfl 32 3 .i64 errLaw Try.underlying100 Try.underlying3 (zeroI _) w2.heap.size es.length _ rfl hown6 _ _ rfl hkey ?_; intro c hat hwc)
                | (at_builtin; refine wpList_append_own _ rfl _ _ 71 rfl w5.heap.size 75 ti z 2 ti.bytes Try.underlying71 hi0 hz0 hsz0 rfl hzs (by decide) _ _ _ rfl (hrw.alloc _) ⟨wr.heap.size, 0, none⟩ 1 1 [.int .i64 x, .int .i64 c] rfl rfl (cM c) (o4 c) b1 b2 (b3 _) ?_; intro v' w7 hown' hg7 hnil7)
                | go_in)
              have hcc : (es.count x : Int) = c := by
                have := (hC.1 x).symm.trans hat
                injection this with this; injection this
              go_roundw
              case rel =>
                refine ⟨k + 1, by omega, by go_num, ?_, ?_⟩
                · have e : prv ((S.take k).map f ++ [f x]) = prv ((S.take k).map f) ++ [.int .i64 x, .int .i64 c] := by
                    rw [prv, List.flatMap_append, hf]; simp [hcc]
                  rw [htk, e]; exact hown'
                · refine ((hnx5.alloc hnx5.size _).grown hg7 (b3 _) fun j hj => ?_)
                  rcases hrw.2 with ⟨e, _⟩ | ⟨g1, cap1, cur1, e, hb1, _⟩
                  · rw [e] at hj; cases hj
                  · rw [e] at hj; cases hj; exact hb1
              case measure => simp [intOf]; omega
            · obtain rfl : k = S.length := by omega
              rw [List.take_length] at hrw
              go_wp2
              go_ret2
              refine ⟨_, rfl, ⟨[_, _], rfl, ?_, .v _ rfl (wfB_iff rfl), trivial⟩, hB25.trans (hnx5.mono hB25.size)⟩
              have hll : (S.map f).length = S.length := List.length_map ..
              rw [← hll] at hrw
              rw [← hck]
              refine rep_owns hrw (fun b hb => Nat.lt_of_lt_of_le (hM b hb) hB25.size) fun p hp => ?_
              obtain ⟨x, hx, rfl⟩ := List.mem_map.1 hp
              have h1 := hSr x hx
              have h2 := hcl x
              rw [hf]
              exact ⟨⟨by dsimp only; omega, by dsimp only; omega⟩, ⟨by dsimp only; omega, by dsimp only; omega⟩⟩
theorem rep_none {w : World} {M : Nat → Prop} {v : Value} (h : Rep w M (intc []) v) : ∃ x c, v = .slice x 0 c := by
  cases h with
  | nil k x c hm hx => exact ⟨x, c, rfl⟩
  | @list b off cap k l vs hc hm hMb hb hk hv hr => exact ⟨_, _, rfl⟩
set_option maxRecDepth 100000 in
set_option maxHeartbeats 4000000 in
theorem qCounts_nil {d1 d2 d3 al : Sx.D} (HE : FnOK Try.prog 24 [.agg [d1, d2, d3], .one al] (.tup [.one (intc []), .one (i64 0)])) : FnOK Try.prog 27 [.agg [d1, d2, d3], .one al] (.tup [.one (.list 2 []), .one (i64 0)]) := by
  refine fun w M vs hM hvs => .inl ⟨27, Try.call27 _ _, ?_⟩
  match vs, hvs with
  | [u, lv], ⟨⟨us, e, hus⟩, hlv, _⟩ =>
    subst e
    match us, hus with
    | [xa, xb, xc], ⟨ha, hb, hc, _⟩ =>
      have o1 := Rep.one ha
      have o2 := Rep.one hb
      have o3 := Rep.one hc
      have o4 := Rep.one hlv
      obtain ⟨W1, hW1⟩ : ∃ W1, W1 = w.alloc (.cells #[xa, xb, xc] 28) := ⟨_, rfl⟩
      have hB1 : Below w.heap.size w W1 := by rw [hW1]; exact (Below.refl _ _).alloc (Nat.le_refl _) _
      have hho := Holds.of_below (M := M) hB1
      have hid : ∀ b, b < w.heap.size → M b → M b := fun _ _ h => h
      have HC : Calls Try.prog 24 #[.agg #[xa, xb, xc], lv] W1 fun e w' => ∃ x cap, e = .returned (.tuple #[.slice x 0 cap, .int .i64 0]) ∧ Below w.heap.size w w' := by
        refine (calls_of_fnok HE (w := W1) (M := M) (vs := [.agg #[xa, xb, xc], lv]) (fun b hb => Nat.lt_of_lt_of_le (hM b hb) hB1.size) ⟨⟨[xa, xb, xc], rfl, ha.mono hho hid, hb.mono hho hid, hc.mono hho hid, trivial⟩, hlv.mono hho hid, trivial⟩ (Try.call24 _ _)).mono ?_
        rintro e w' ⟨v, rfl, ⟨us, rfl, hus⟩, hb⟩
        match us, hus with
        | [x, y], ⟨hx, hy, _⟩ =>
          obtain ⟨x, cap, rfl⟩ := rep_none hx
          obtain rfl := rep_i64 hy
          exact ⟨x, cap, rfl, hB1.trans (hb.mono hB1.size)⟩
      have hmm := @run_makeMap Try.prog
      clear HE ha hb hc hlv
      go_enter Try.func27, Try.ntmps27
      subst hW1
      go_wp2_with (go_at_call 24; refine HC.mono ?_; rintro e w2 ⟨x, cap, rfl, hB2⟩)
      refine wp_loop_rounds 1 ?_
      rw [rounds_succ]
      have hown := World.ownsMap_made w2 Try.prog 32 (plainElem (H := Unit) Try.prog 3)
      have cS := cntSorted_call hown cnt_nil (fun _ h => by cases h) (Nat.zero_le _)
      have hk : keysS [] = [] := by rfl
      rw [hk] at cS
      simp only [World.size_alloc] at cS
      go_wp2_with (first
        | (go_at_call 50; refine (cntKeys_call _ _).mono ?_; rintro e w3 ⟨rfl, rfl⟩)
        | (go_at_call 49; refine cS.mono ?_; rintro e w5 ⟨sv, rfl, hrow, hB5⟩; obtain ⟨sx, sc, rfl⟩ := owns_none hrow))
      refine wp_loop_rounds 1 ?_
      rw [rounds_succ]
      go_wp2
      go_ret2
      refine ⟨_, rfl, ⟨[_, _], rfl, .nil 2 none 0 (by omega) (fun _ => rfl), .v _ rfl (wfB_iff rfl), trivial⟩, ?_⟩
      exact hB2.trans (((((Below.refl _ w2).alloc (Nat.le_refl _) _).alloc (by simp) _).trans (hB5.mono (by omega))).mono hB2.size)
end Go.Proofs.Ytnjgfhgpicmklaa

namespace Go.Proofs.Ytnjgfhgpicmklaa
open Go Go.RowKit Go.Sort Sx
def runs : Md → List Ak → Md × List Rp
  | m, [] => (m, [])
  | m, a :: l => ((runs (askV m a).1 l).1, (askV m a).2 :: (runs (askV m a).1 l).2)
theorem runs_append : ∀ (m : Md) (l r : List Ak), runs m (l ++ r) = ((runs (runs m l).1 r).1, (runs m l).2 ++ (runs (runs m l).1 r).2)
  | m, [], r => rfl
  | m, a :: l, r => by
    simp only [List.cons_append, runs, runs_append (askV m a).1 l r]
theorem runs_snoc (m : Md) (l : List Ak) (a : Ak) : runs m (l ++ [a]) = ((askV (runs m l).1 a).1, (runs m l).2 ++ [(askV (runs m l).1 a).2]) := by
  rw [runs_append]; rfl
theorem runs_len : ∀ (m : Md) (l : List Ak), (runs m l).2.length = l.length
  | _, [] => rfl
  | m, a :: l => by simp only [runs, List.length_cons, runs_len]
theorem runs_succ {m : Md} {l : List Ak} {i : Nat} (h : i < l.length) : runs m (l.take (i + 1)) = ((askV (runs m (l.take i)).1 l[i]).1, (runs m (l.take i)).2 ++ [(askV (runs m (l.take i)).1 l[i]).2]) := by
  rw [List.take_succ_eq_append_getElem h, runs_snoc]
end Go.Proofs.Ytnjgfhgpicmklaa

namespace Go.Proofs.Ytnjgfhgpicmklaa
open Go.RowKit Go.Sort Sx
def errsV (m : Md) (l : List Ak) : List Int := (runs m l).2.map (·.e)
theorem askV_err {m : Md} {a : Ak} (h : (askV m a).2.e ≠ 0) : (askV m a).1 = m := by
  unfold askV at h ⊢
  split
  · rename_i c0
    rw [if_pos c0] at h
    split
    · rename_i c1
      rw [if_pos c1] at h
      split
      · rename_i c; rw [if_pos c] at h; exact absurd rfl h
      · rfl
    · rename_i c1
      rw [if_neg c1] at h
      split
      · rename_i c2
        rw [if_pos c2] at h
        split
        · rename_i c; rw [if_pos c] at h; exact absurd rfl h
        · rfl
      · rename_i c2
        rw [if_neg c2] at h
        split
        · rename_i c3
          rw [if_pos c3] at h
          split
          · rename_i c; rw [if_pos c] at h; exact absurd rfl h
          · rfl
        · rename_i c3
          rw [if_neg c3] at h
          split
          · rename_i c4
            rw [if_pos c4] at h
            split
            · rename_i c5
              rw [if_pos c5] at h
              split
              · rfl
              · rename_i c; rw [if_neg c] at h; exact absurd rfl h
            · rfl
          · split
            · split <;> rfl
            · rfl
  · rfl
def kept : Md → List Ak → List Ak
  | _, [] => []
  | m, a :: l => if (askV m a).2.e = 0 then a :: kept (askV m a).1 l else kept (askV m a).1 l
theorem errs_cons (m : Md) (a : Ak) (l : List Ak) : errsV m (a :: l) = (askV m a).2.e :: errsV (askV m a).1 l := rfl
theorem errs_len (m : Md) (l : List Ak) : (errsV m l).length = l.length := by unfold errsV; rw [List.length_map, runs_len]
def keepE : List Ak → List Int → List Ak
  | a :: l, e :: es => if e = 0 then a :: keepE l es else keepE l es
  | _, _ => []
theorem keepE_kept : ∀ (m : Md) (l : List Ak), keepE l (errsV m l) = kept m l
  | _, [] => rfl
  | m, a :: l => by rw [errs_cons, keepE, kept, keepE_kept]
theorem keepE_lt {l : List Ak} {es : List Int} {i : Nat} (h1 : i < l.length) (h2 : i < es.length) : keepE (l.drop i) (es.drop i) = (if es[i] = 0 then [l[i]] else []) ++ keepE (l.drop (i + 1)) (es.drop (i + 1)) := by
  rw [List.drop_eq_getElem_cons h1, List.drop_eq_getElem_cons h2, keepE]
  split <;> rfl
theorem keepE_ge {l : List Ak} {es : List Int} {i : Nat} (h1 : l.length ≤ i) : keepE (l.drop i) (es.drop i) = [] := by
  rw [List.drop_of_length_le h1]; simp [keepE]
def fst0 : List Int → Option Nat
  | [] => none
  | e :: l => if e = 0 then (fst0 l).map (· + 1) else some 0
def firstE (l : List Int) : Int × Int := match fst0 l with | none => (0, 6) | some i => ((i : Int), 0)
theorem fst0_none {l : List Int} : fst0 l = none ↔ ∀ e ∈ l, e = 0 := by
  induction l with
  | nil => simp [fst0]
  | cons e l ih =>
    rw [fst0]
    by_cases h : e = 0
    · rw [if_pos h, Option.map_eq_none_iff, ih]; simp [h]
    · rw [if_neg h]; simp [h]
theorem fst0_some {l : List Int} {i : Nat} : fst0 l = some i ↔ ∃ h : i < l.length, l[i] ≠ 0 ∧ ∀ j (hj : j < l.length), j < i → l[j] = 0 := by
  induction l generalizing i with
  | nil => simp [fst0]
  | cons e l ih =>
    rw [fst0]
    by_cases h : e = 0
    · rw [if_pos h, Option.map_eq_some_iff]
      constructor
      · rintro ⟨k, hk, rfl⟩
        obtain ⟨h1, h2, h3⟩ := ih.1 hk
        refine ⟨by simpa using h1, by simpa using h2, fun j hj hlt => ?_⟩
        cases j with
        | zero => exact h
        | succ j => exact h3 j (by simpa using hj) (by omega)
      · rintro ⟨h1, h2, h3⟩
        cases i with
        | zero => exact absurd h h2
        | succ i => exact ⟨i, ih.2 ⟨by simpa using h1, by simpa using h2, fun j hj hlt => h3 (j + 1) (by simpa using hj) (by omega)⟩, rfl⟩
    · rw [if_neg h]
      constructor
      · intro e'
        injection e' with e'
        subst e'
        exact ⟨by simp, h, fun j _ hj => by omega⟩
      · rintro ⟨h1, h2, h3⟩
        cases i with
        | zero => rfl
        | succ i => exact absurd (h3 0 (by simp) (by omega)) h
def lstF : List Pt → Int → Int
  | [], i => i
  | p :: l, i => if p.id = i then lstF l (i + 1) else i
theorem lstF_lt {l : List Pt} {i : Nat} (h : i < l.length) : lstF (l.drop i) i = if l[i].id = i then lstF (l.drop (i + 1)) ((i + 1 : Nat) : Int) else i := by
  rw [List.drop_eq_getElem_cons h, lstF]; rfl
theorem lstF_ge {l : List Pt} {i : Nat} (h : l.length ≤ i) : lstF (l.drop i) i = i := by
  rw [List.drop_of_length_le h, lstF]
theorem lstF_ok {l : List Pt} (hs : incr l = true) (h0 : ∀ p ∈ l, 0 ≤ p.id) : ∀ (k i : Nat), k = l.length - i → i ≤ l.length → (∀ j (h : j < l.length), j < i → l[j].id = j) →
    ∃ n : Nat, lstF (l.drop i) i = n ∧ i ≤ n ∧ n ≤ l.length ∧ (∀ j : Nat, j < n → has l j = true) ∧ has l n = false := by
  intro k
  have hh : ∀ j (h : j < l.length), has l l[j].id = true := fun j h => List.any_eq_true.2 ⟨l[j], List.getElem_mem h, by simp⟩
  induction k with
  | zero =>
    intro i hk hi h
    obtain rfl : i = l.length := by omega
    refine ⟨l.length, lstF_ge (Nat.le_refl _), Nat.le_refl _, Nat.le_refl _, fun j hj => ?_, ?_⟩
    · rw [← h j hj hj]; exact hh j hj
    · rw [Bool.eq_false_iff]
      intro hc
      obtain ⟨p, hp, e⟩ := List.any_eq_true.1 hc
      obtain ⟨j, hj, rfl⟩ := List.getElem_of_mem hp
      have := h j hj hj
      have e : l[j].id = l.length := by simpa using e
      omega
  | succ k ih =>
    intro i hk hi h
    have hlt : i < l.length := by omega
    rw [lstF_lt hlt]
    by_cases c : l[i].id = i
    · rw [if_pos c]
      obtain ⟨n, e, h1, h2, h3⟩ := ih (i + 1) (by omega) hlt (fun j hj hji => by
        rcases Nat.lt_or_ge j i with g | g
        · exact h j hj g
        · obtain rfl : j = i := by omega
          exact c)
      exact ⟨n, e, by omega, h2, h3⟩
    · rw [if_neg c]
      refine ⟨i, rfl, Nat.le_refl _, hi, fun j hj => ?_, ?_⟩
      · rw [← h j (by omega) hj]; exact hh j (by omega)
      · rw [Bool.eq_false_iff]
        intro hc
        obtain ⟨p, hp, e⟩ := List.any_eq_true.1 hc
        obtain ⟨j, hj, rfl⟩ := List.getElem_of_mem hp
        have e : l[j].id = i := by simpa using e
        rcases Nat.lt_trichotomy j i with g | g | g
        · have := h j hj g; omega
        · subst g; exact c e
        · have h1 := incr_lt hs j i hj g
          have h2 := h0 _ (List.getElem_mem hlt)
          rcases Nat.eq_zero_or_pos i with z | z
          · omega
          · have h3 := h (i - 1) (by omega) (by omega)
            have h4 := incr_lt hs i (i - 1) hlt (by omega)
            omega
def freeV (m : Md) : Int × Int := if mchk m = 0 then (if m.l.length = 64 then (0, 18) else (lstF m.l 0, 0)) else (0, 8)
def errV (m : Md) (a : Ak) : Int × Int := if mchk m = 0 then ((askV m a).2.e, 0) else (0, 8)
def errorsV (m : Md) (l : List Ak) : List Int × Int := if mchk m = 0 then (if 120 < l.length then ([], 4) else (errsV m l, 0)) else ([], 8)
def ofirstV (m : Md) (l : List Ak) : Int × Int := if mchk m = 0 then (if 120 < l.length then (0, 4) else firstE (errsV m l)) else (0, 8)
def keptV (m : Md) (l : List Ak) : List Ak × Int := if mchk m = 0 then (if 120 < l.length then ([], 4) else (kept m l, 0)) else ([], 8)
theorem askV_rng {m : Md} (hm : mchk m = 0) (a : Ak) : (askV m a).2.e ∈ ([0, 2, 4, 6, 8, 12, 14, 18, 32, 42, 44] : List Int) := by
  obtain ⟨g1, g2⟩ := mchk_ok hm
  obtain ⟨t1, _⟩ := askd_ok g1
  have f := fchk_cases
  have ck : ∀ p : Pt, p.chk = 0 ∨ p.chk = 8 := Pt.chk_08
  unfold askV
  split
  · split
    · split
      · simp [rp0]
      · show (putV m.l a.p).2 ∈ _
        unfold putV
        rw [if_pos g2]
        split
        · split
          · simp
          · split <;> simp
        · simp
    · split
      · split
        · simp [rp0]
        · show (takeV m.l a.id).2 ∈ _
          unfold takeV
          rw [if_pos g2]
          split <;> simp
      · split
        · split
          · simp [rp0]
          · show (changeV m.l a.p).2 ∈ _
            unfold changeV
            rw [if_pos g2]
            split
            · split <;> simp
            · simp
        · split
          · split
            · split <;> simp [rpE]
            · show askd a.n a.d ∈ _
              unfold askd
              split
              · rcases chk_08 a.n a.d with h | h <;> rw [h] <;> simp
              · split <;> simp
          · split
            · split <;> simp [rpE]
            · show (closV m.l m.n m.d).2.2.2.2 ∈ _
              unfold closV
              rw [if_pos g2, if_pos g1]
              split <;> simp
  · simp [rpE]
end Go.Proofs.Ytnjgfhgpicmklaa

namespace Go.Proofs.Ytnjgfhgpicmklaa
open Go.RowKit Go.Sort Sx
structure Pa where
  n : Int
  d : Int
  ms : List Md
  deriving DecidableEq, Inhabited
abbrev mos (l : List Md) : D := .list 3 (l.map Md.c)
abbrev Pa.dc (p : Pa) : DC := .agg [i64 p.n, i64 p.d, mos p.ms]
theorem askd_ok' {n d : Int} (h : askd n d = 0) : chk n d = 0 ∧ -1073741824 ≤ n ∧ n ≤ 1073741824 ∧ 1 ≤ d ∧ d ≤ 1024 := by
  unfold askd at h
  split at h
  · rename_i h1; exact absurd h h1
  · rename_i h1
    have h1 : chk n d = 0 := by omega
    have := (chk_iff n d).1 h1
    split at h
    · omega
    · exact ⟨h1, by omega⟩
theorem cmp_chk {p q r t : Int} (h1 : chk p q = 0) (h2 : chk r t = 0) : FnOK Try.prog 39 (rat2 p q r t) (.tup [.one (i64 (cmpN (p * t) (r * q))), .one (i64 0)]) := by
  have := cmp_fn p q r t
  unfold cmpV bth at this
  rw [if_pos (by rw [h1, if_pos rfl, h2])] at this
  exact this
theorem askd_chk {n d : Int} (h : askd n d = 0) : chk n d = 0 := (askd_ok' h).1
end Go.Proofs.Ytnjgfhgpicmklaa
