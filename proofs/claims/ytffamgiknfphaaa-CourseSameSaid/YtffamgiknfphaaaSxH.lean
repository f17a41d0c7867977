/- A symbolic walk: a region whose order is drawn comes to one end, whatever the order, if what its operations touch is in order. No conditions beyond the check that the theorem names. -/
import Derived.Test.YtffamgiknfphaaaSxG
namespace Go.Proofs.Ytffamgiknfphaaa
open Go Go.RowKit

set_option linter.unusedVariables false
namespace Sx

def tmpsOf : List Operand → List Nat
  | [] => []
  | .tmp t :: l => t :: tmpsOf l
  | _ :: l => tmpsOf l
def guardTmp (all : List Oper) (o : Oper) : List Nat :=
  match o.guard with
  | none => []
  | some (j, _) => match all[j]? with
    | some oj => match oj.dst with | some t => [t] | none => []
    | none => []
def usesOf (all : List Oper) (o : Oper) : List Nat := guardTmp all o ++ tmpsOf o.op.operands.toList
def affOf : Eff → List Nat
  | .new n _ _ | .put n _ => [n]
  | .val _ => []
def dstL : Option Nat → List Nat
  | some d => [d]
  | none => []

theorem mem_tmps : ∀ {l : List Operand} {t : Nat}, Operand.tmp t ∈ l → t ∈ tmpsOf l
  | .tmp u :: l, t, h => by
    rcases List.mem_cons.1 h with h | h
    · injection h with h; subst h; exact List.mem_cons_self ..
    · exact List.mem_cons_of_mem _ (mem_tmps h)
  | .const _ :: l, t, h => by rcases List.mem_cons.1 h with h | h <;> first | (cases h; done) | exact mem_tmps (l := l) h
  | .global _ :: l, t, h => by rcases List.mem_cons.1 h with h | h <;> first | (cases h; done) | exact mem_tmps (l := l) h
  | .func _ :: l, t, h => by rcases List.mem_cons.1 h with h | h <;> first | (cases h; done) | exact mem_tmps (l := l) h

theorem memB_iff {n : Nat} : ∀ {l : List Nat}, memB n l = true ↔ n ∈ l
  | [] => by simp [memB]
  | m :: l => by
    unfold memB
    split
    · rename_i h
      have : n = m := by simpa using h
      simp [this]
    · rename_i h
      have : n ≠ m := by rintro rfl; simp at h
      rw [memB_iff]; simp [this]

section
variable {P : Program} {sz : Nat} {o : Oper} {x : Eff} {Γ : List (Nat × TD)} {ops : List Oper} {e e' : Nat → Option SV} {h h' : Nat → Option Blk}

theorem valsOf_congr (he : ∀ t ∈ tmpsOf o.op.operands.toList, e t = e' t) : valsOf e o = valsOf e' o := by
  unfold valsOf
  refine List.map_congr_left fun y hy => ?_
  cases y with
  | tmp t => exact he t (mem_tmps hy)
  | _ => rfl
theorem gv_congr (he : ∀ t ∈ guardTmp ops o, e t = e' t) : gv ops e o = gv ops e' o := by
  unfold gv
  unfold guardTmp at he
  split
  · rfl
  · rename_i j want hg
    rw [hg] at he
    simp only at he
    split
    · rename_i oj hj
      rw [hj] at he
      simp only at he
      split
      · rename_i t ht
        rw [ht] at he
        rw [he t (List.mem_cons_self ..)]
      · rfl
    · rfl
theorem opAt_congr (he : ∀ t ∈ usesOf ops o, e t = e' t) (hh : ∀ n ∈ namesO (valsOf e o), h n = h' n) (hd : ∀ d ∈ dstL o.dst, h d = h' d) (H : OpAt P Γ sz ops e h o x) : OpAt P Γ sz ops e' h' o x := by
  have h1 := gv_congr (ops := ops) (o := o) (e := e) (e' := e') fun t ht => he t (List.mem_append_left _ ht)
  have h2 := valsOf_congr (o := o) (e := e) (e' := e') fun t ht => he t (List.mem_append_right _ ht)
  have h3 : stepF P Γ sz o e h = stepF P Γ sz o e' h' := by
    unfold stepF
    rw [← h2]
    congr 1
    · funext n
      unfold onlyN
      split
      · rename_i hm; exact hh n (memB_iff.1 hm)
      · rfl
    · unfold freshB
      cases hx : o.dst with
      | none => rfl
      | some d =>
        simp only
        rw [hd d (by rw [hx]; exact List.mem_cons_self ..)]
  unfold OpAt at *
  rw [← h1, ← h3]
  exact H

/-! ### the check -/
def before2 (pre : List Nat) (i j : Nat) : Bool := Nat.testBit (pre.getD j 0) i
def ordB (pre : List Nat) (i j : Nat) : Bool := match Nat.blt i j with | true => before2 pre i j | false => before2 pre j i
def disjB (a b : List Nat) : Bool := a.all fun n => !memB n b
/-- operation j beside operation i -/
def pairB (pre : List Nat) (i : Nat) (di : List Nat) (ui ni ai : List Nat) (j : Nat) (dj aj : List Nat) : Bool :=
  match Nat.beq i j with
  | true => true
  | false => disjB di dj && (disjB ui dj || ordB pre i j) && (disjB ni aj && disjB di aj || ordB pre i j) && (disjB ai aj || !Nat.blt i j || before2 pre i j)
def chkJ (pre : List Nat) (i : Nat) (di ui ni ai : List Nat) : Nat → List Oper → List (List Nat × List Nat) → Bool
  | _, [], [] => true
  | j, o :: ops, r :: recs => pairB pre i di ui ni ai j (dstL o.dst) r.2 && chkJ pre i di ui ni ai (j + 1) ops recs
  | _, _, _ => false
def chkI (pre : List Nat) (all : List Oper) (rall : List (List Nat × List Nat)) : Nat → List Oper → List (List Nat × List Nat) → Bool
  | _, [], [] => true
  | i, o :: ops, r :: recs => (o.after.toList.all fun e => !Region.binds .any e || Nat.blt e.on i) && chkJ pre i (dstL o.dst) (usesOf all o) r.1 r.2 0 all rall && chkI pre all rall (i + 1) ops recs
  | _, _, _ => false
def chk (all : List Oper) (recs : List (List Nat × List Nat)) : Bool := chkI (befs all []) all recs 0 all recs

theorem chkJ_spec {pre : List Nat} {i : Nat} {di ui ni ai : List Nat} : ∀ {ops : List Oper} {recs : List (List Nat × List Nat)} {j0 : Nat}, chkJ pre i di ui ni ai j0 ops recs = true →
    ops.length = recs.length ∧ ∀ (j : Nat) (o : Oper) (r : List Nat × List Nat), ops[j]? = some o → recs[j]? = some r → pairB pre i di ui ni ai (j0 + j) (dstL o.dst) r.2 = true
  | [], [], j0, h => ⟨rfl, fun j o r ho => by simp at ho⟩
  | o :: ops, r :: recs, j0, h => by
    simp only [chkJ, Bool.and_eq_true] at h
    obtain ⟨h1, h2⟩ := chkJ_spec h.2
    refine ⟨by simp [h1], fun j o' r' ho hr => ?_⟩
    cases j with
    | zero =>
      simp at ho hr
      subst ho hr
      exact h.1
    | succ j =>
      have := h2 j o' r' (by simpa using ho) (by simpa using hr)
      rwa [show j0 + 1 + j = j0 + (j + 1) by omega] at this
  | [], _ :: _, _, h => by simp [chkJ] at h
  | _ :: _, [], _, h => by simp [chkJ] at h
theorem chkI_spec {pre : List Nat} {all : List Oper} {rall : List (List Nat × List Nat)} : ∀ {ops : List Oper} {recs : List (List Nat × List Nat)} {i0 : Nat}, chkI pre all rall i0 ops recs = true →
    ops.length = recs.length ∧ ∀ (i : Nat) (o : Oper) (r : List Nat × List Nat), ops[i]? = some o → recs[i]? = some r →
      (∀ e ∈ o.after, Region.binds .any e = true → e.on < i0 + i) ∧ chkJ pre (i0 + i) (dstL o.dst) (usesOf all o) r.1 r.2 0 all rall = true
  | [], [], i0, h => ⟨rfl, fun j o r ho => by simp at ho⟩
  | o :: ops, r :: recs, i0, h => by
    simp only [chkI, Bool.and_eq_true] at h
    obtain ⟨h1, h2⟩ := chkI_spec h.2
    refine ⟨by simp [h1], fun j o' r' ho hr => ?_⟩
    cases j with
    | zero =>
      simp at ho hr
      subst ho hr
      refine ⟨fun e he hb => ?_, h.1.2⟩
      have := List.all_eq_true.1 h.1.1 e (by simpa using he)
      simpa [hb] using this
    | succ j =>
      have := h2 j o' r' (by simpa using ho) (by simpa using hr)
      rwa [show i0 + 1 + j = i0 + (j + 1) by omega] at this
  | [], _ :: _, _, h => by simp [chkI] at h
  | _ :: _, [], _, h => by simp [chkI] at h

theorem disjB_spec {a b : List Nat} (h : disjB a b = true) : ∀ n ∈ a, n ∉ b := fun n ha hb => by
  have := List.all_eq_true.1 h n ha
  rw [memB_iff.2 hb] at this
  cases this

structure Chk (ops : List Oper) (recs : List (List Nat × List Nat)) : Prop where
  len : ops.length = recs.length
  back : ∀ (i : Nat) (o : Oper), ops[i]? = some o → ∀ e ∈ o.after, Region.binds .any e = true → e.on < i
  pair : ∀ (i j : Nat) (o o' : Oper) (r r' : List Nat × List Nat), ops[i]? = some o → recs[i]? = some r → ops[j]? = some o' → recs[j]? = some r' → i ≠ j →
    (∀ d ∈ dstL o.dst, d ∉ dstL o'.dst) ∧ ((∃ t ∈ usesOf ops o, t ∈ dstL o'.dst) → ordB (befs ops []) i j = true) ∧ ((∃ n, (n ∈ r.1 ∨ n ∈ dstL o.dst) ∧ n ∈ r'.2) → ordB (befs ops []) i j = true) ∧
    ((∃ n ∈ r.2, n ∈ r'.2) → i < j → before2 (befs ops []) i j = true)
theorem chk_spec {ops : List Oper} {recs : List (List Nat × List Nat)} (h : chk ops recs = true) : Chk ops recs := by
  obtain ⟨h1, h2⟩ := chkI_spec h
  have get : ∀ (i : Nat) (o : Oper), ops[i]? = some o → ∃ r, recs[i]? = some r := fun i o ho => by
    have := (List.getElem?_eq_some_iff.1 ho).1
    exact ⟨_, List.getElem?_eq_getElem (by omega)⟩
  refine ⟨h1, fun i o ho e he hb => ?_, fun i j o o' r r' ho hr ho' hr' hij => ?_⟩
  · obtain ⟨r, hr⟩ := get i o ho
    simpa using (h2 i o r ho hr).1 e he hb
  · have hJ := (h2 i o r ho hr).2
    have hp := (chkJ_spec hJ).2 j o' r' ho' hr'
    rw [Nat.zero_add, Nat.zero_add] at hp
    unfold pairB at hp
    split at hp
    · rename_i hb
      exact absurd (by simpa using hb) hij
    · simp only [Bool.and_eq_true, Bool.or_eq_true, Bool.not_eq_true'] at hp
      obtain ⟨⟨⟨p1, p2⟩, p3⟩, p4⟩ := hp
      refine ⟨disjB_spec p1, fun ⟨t, h3, h4⟩ => ?_, fun ⟨n, h3, h4⟩ => ?_, fun ⟨n, h3, h4⟩ hlt => ?_⟩
      · rcases p2 with p2 | p2
        · exact absurd h4 (disjB_spec p2 t h3)
        · exact p2
      · rcases p3 with ⟨p3, p5⟩ | p3
        · rcases h3 with h3 | h3
          · exact absurd h4 (disjB_spec p3 n h3)
          · exact absurd h4 (disjB_spec p5 n h3)
        · exact p3
      · rcases p4 with (p4 | p4) | p4
        · exact absurd h4 (disjB_spec p4 n h3)
        · have : Nat.blt i j = true := by simpa using hlt
          rw [this] at p4; cases p4
        · exact p4
end

/-! ### whatever the order -/
section
variable {P : Program} {M0 : Nat → Prop} {w0 w : World} {sz : Nat} {ρ : Nat → Nat} {E0 : Env} {H0 : Hp} {a : Act} {Γ : List (Nat × TD)} {ops : List Oper} {xs : List Eff} {recs : List (List Nat × List Nat)} {Q : Exit → Act → World → Prop}

def usE (ops : List Oper) (xs : List Eff) : List (Option (Nat × SV)) := (ops.zip xs).map fun p => updE p.1.dst p.2
def usH (xs : List Eff) : List (Option (Nat × Blk)) := xs.map updH
theorem usE_get {j t : Nat} {v : SV} (h : (usE ops xs)[j]? = some (some (t, v))) : ∃ o, ops[j]? = some o ∧ o.dst = some t := by
  unfold usE at h
  rw [List.getElem?_map] at h
  cases hz : (ops.zip xs)[j]? with
  | none => rw [hz] at h; simp at h
  | some p =>
    rw [hz] at h
    obtain ⟨h1, h2⟩ := List.getElem?_zip_eq_some.1 hz
    refine ⟨p.1, h1, ?_⟩
    simp only [Option.map_some, Option.some.injEq] at h
    unfold updE at h
    split at h <;> first | (injection h with h; injection h with h1 h2; subst h1; assumption) | cases h
theorem usH_get {j n : Nat} {b : Blk} (h : (usH xs)[j]? = some (some (n, b))) : ∃ x, xs[j]? = some x ∧ n ∈ affOf x := by
  unfold usH at h
  rw [List.getElem?_map] at h
  cases hx : xs[j]? with
  | none => rw [hx] at h; simp at h
  | some x =>
    rw [hx] at h
    refine ⟨x, rfl, ?_⟩
    simp only [Option.map_some, Option.some.injEq] at h
    unfold updH at h
    split at h <;> first | (injection h with h; injection h with h1 h2; subst h1; simp [affOf]) | cases h

theorem getD_set_same' {listed : Array Bool} {i : Nat} (h : i < listed.size) : (fun j => (listed.setIfInBounds i true).getD j false) = also (fun j => listed.getD j false) i := by
  funext j
  by_cases hj : j = i
  · subst hj; simp [also, h]
  · have : i ≠ j := fun e => hj e.symm
    simp [also, hj, Array.getElem?_setIfInBounds_ne this]

theorem draw_any (hΓ : ∀ t td, look Γ t = some td → TyOK P t td) (hlen : xs.length = ops.length) (hC : Chk ops recs)
    (hrec : ∀ (i : Nat) (o : Oper) (x : Eff) (r : List Nat × List Nat), ops[i]? = some o → xs[i]? = some x → recs[i]? = some r → r.2 = affOf x ∧ (OpAt P Γ sz ops (look (runU (usE ops xs) 0 (fun j => decide (j < i)) E0)) (look (runU (usH xs) 0 (fun j => decide (j < i)) H0)) o x) ∧
      namesO (valsOf (look (runU (usE ops xs) 0 (fun j => decide (j < i)) E0)) o) = r.1 ∨ (r = ([], []) ∧ x = skipE ∧ (gv ops (look (runU (usE ops xs) 0 (fun j => decide (j < i)) E0)) o).val = some false ∧ dstB sz o.dst = true))
    (hQ : ∀ ρ a w, Rel M0 w0 sz ρ (runU (usE ops xs) 0 (fun _ => true) E0) (runU (usH xs) 0 (fun _ => true) H0) a w → Q .normal a w) :
    ∀ (fuel : Nat) (listed : Array Bool) (a : Act) (w : World), listed.size = ops.length → listed.toList.countP (fun b => !b) = fuel →
      (∀ i o, ops[i]? = some o → listed.getD i false = true → ∀ e ∈ o.after, Region.binds .any e = true → listed.getD e.on false = true) →
      (∃ ρ, Rel M0 w0 sz ρ (runU (usE ops xs) 0 (fun j => listed.getD j false) E0) (runU (usH xs) 0 (fun j => listed.getD j false) H0) a w) → wpAny P .any ops.toArray Q fuel listed a w := by
  have hend : ∀ (listed : Array Bool) (a : Act) (w : World), (∀ i, i < ops.length → listed.getD i false = true) →
      (∃ ρ, Rel M0 w0 sz ρ (runU (usE ops xs) 0 (fun j => listed.getD j false) E0) (runU (usH xs) 0 (fun j => listed.getD j false) H0) a w) → Q .normal a w := by
    rintro listed a w hall ⟨ρ, R⟩
    refine hQ ρ a w (R.same (fun t x h => ?_) fun n => ?_)
    · rw [← h]
      refine runU_congr _ _ _ _ _ _ t (fun j v hj => ?_) rfl
      obtain ⟨o, ho, _⟩ := usE_get hj
      rw [Nat.zero_add]
      exact hall j (List.getElem?_eq_some_iff.1 ho).1
    · refine runU_congr _ _ _ _ _ _ n (fun j v hj => ?_) rfl
      obtain ⟨x, hx, _⟩ := usH_get hj
      rw [Nat.zero_add]
      exact (hall j (by rw [← hlen]; exact (List.getElem?_eq_some_iff.1 hx).1)).symm
  intro fuel
  induction fuel with
  | zero =>
    intro listed a w hsz hcnt hcl hR
    have hall : ∀ i, i < ops.length → listed.getD i false = true := fun i hi => by
      have h0 := List.countP_eq_zero.1 hcnt (listed[i]'(by omega)) (by simp)
      have : i < listed.size := by omega
      simpa [Array.getD, this] using h0
    refine ⟨?_, hend listed a w hall hR⟩
    refine List.eq_nil_iff_forall_not_mem.2 fun i hi => ?_
    obtain ⟨h1, o, ho, _⟩ := mem_ready.1 hi
    have hi' : i < ops.length := by have := (Array.getElem?_eq_some_iff.1 ho).1; simpa using this
    have h2 := hall i hi'
    have : i < listed.size := by omega
    simp [this] at h1 h2
    rw [h1] at h2; cases h2
  | succ fuel ih =>
    intro listed a w hsz hcnt hcl hR
    refine ⟨fun h0 => ?_, fun i hi => ?_⟩
    · refine hend listed a w (fun i => ?_) hR
      induction i using Nat.strongRecOn with
      | _ i ihi =>
        intro hi
        cases hx : listed.getD i false with
        | true => rfl
        | false =>
          exfalso
          obtain ⟨o, ho⟩ : ∃ o, ops[i]? = some o := ⟨_, List.getElem?_eq_getElem hi⟩
          have : i ∈ Region.ready .any ops.toArray listed := by
            refine mem_ready.2 ⟨?_, o, by simpa using ho, fun e he hb => ?_⟩
            · have : i < listed.size := by omega
              simpa [this] using hx
            · have hlt := hC.back i o ho e he hb
              exact ihi e.on hlt (by omega)
          rw [h0] at this
          cases this
    · obtain ⟨h1, o, ho, hedge⟩ := mem_ready.1 hi
      have ho : ops[i]? = some o := by simpa using ho
      have hi' : i < ops.length := (List.getElem?_eq_some_iff.1 ho).1
      have his : i < listed.size := by omega
      have hXi : listed.getD i false = false := by simpa [his] using h1
      obtain ⟨x, hx⟩ : ∃ x, xs[i]? = some x := ⟨_, List.getElem?_eq_getElem (by omega)⟩
      obtain ⟨r, hr⟩ : ∃ r, recs[i]? = some r := ⟨_, List.getElem?_eq_getElem (by have := hC.len; omega)⟩
      obtain ⟨ρ, R⟩ := hR
      have hpre : ∀ j, before2 (befs ops []) j i = true → listed.getD j false = true := fun j hj => befs_spec (X := fun j => listed.getD j false) hcl i o j ho hedge hj
      have hpost : ∀ j o', ops[j]? = some o' → before2 (befs ops []) i j = true → listed.getD j false = false := fun j o' ho' hj => by
        cases hx : listed.getD j false with
        | false => rfl
        | true =>
          have := befs_spec (X := fun j => listed.getD j false) hcl j o' i ho' (hcl j o' ho' hx) hj
          rw [show listed.getD i false = false from hXi] at this; cases this
      have hord : ∀ j o', ops[j]? = some o' → (i ≠ j → ordB (befs ops []) i j = true) → listed.getD j false = decide (j < i) := fun j o' ho' h => by
        by_cases hij : i = j
        · subst hij; simp [hXi]
        · have h := h hij
          unfold ordB at h
          split at h
          · rename_i hb
            have hlt : i < j := by simpa using hb
            rw [hpost j o' ho' h]
            have : ¬ j < i := by omega
            simp [this]
          · rename_i hb
            have hlt : ¬ i < j := fun hlt => by
              have : Nat.blt i j = true := by simpa using hlt
              rw [this] at hb; cases hb
            rw [hpre j h]
            have : j < i := by omega
            simp [this]
      have hpair := fun (j : Nat) (o' : Oper) (r' : List Nat × List Nat) (ho' : ops[j]? = some o') (hr' : recs[j]? = some r') (hij : i ≠ j) => hC.pair i j o o' r r' ho hr ho' hr' hij
      have getr : ∀ j o', ops[j]? = some o' → ∃ r', recs[j]? = some r' := fun j o' ho' => by
        have := (List.getElem?_eq_some_iff.1 ho').1
        have := hC.len
        exact ⟨_, List.getElem?_eq_getElem (by omega)⟩
      have getaff : ∀ (j : Nat) (x' : Eff), xs[j]? = some x' → ∃ (o' : Oper) (r' : List Nat × List Nat), ops[j]? = some o' ∧ recs[j]? = some r' ∧ r'.2 = affOf x' := fun j x' hx' => by
        have hj := (List.getElem?_eq_some_iff.1 hx').1
        obtain ⟨o', ho'⟩ : ∃ o', ops[j]? = some o' := ⟨_, List.getElem?_eq_getElem (by omega)⟩
        obtain ⟨r', hr'⟩ := getr j o' ho'
        refine ⟨o', r', ho', hr', ?_⟩
        rcases hrec j o' x' r' ho' hx' hr' with ⟨h, _⟩ | ⟨h, h', _⟩
        · exact h
        · rw [h, h']; rfl
      -- the frame as the operation sees it
      have eE : ∀ t, (t ∈ usesOf ops o) → look (runU (usE ops xs) 0 (fun j => decide (j < i)) E0) t = look (runU (usE ops xs) 0 (fun j => listed.getD j false) E0) t := fun t ht => by
        refine runU_congr _ _ _ _ _ _ t (fun j v hj => ?_) rfl
        obtain ⟨o', ho', hd⟩ := usE_get hj
        rw [Nat.zero_add]
        obtain ⟨r', hr'⟩ := getr j o' ho'
        exact (hord j o' ho' fun hij => (hpair j o' r' ho' hr' hij).2.1 ⟨t, ht, by rw [hd]; exact List.mem_cons_self ..⟩).symm
      have eH : ∀ n, (n ∈ r.1 ∨ n ∈ dstL o.dst) → look (runU (usH xs) 0 (fun j => decide (j < i)) H0) n = look (runU (usH xs) 0 (fun j => listed.getD j false) H0) n := fun n hn => by
        refine runU_congr _ _ _ _ _ _ n (fun j v hj => ?_) rfl
        obtain ⟨x', hx', hn'⟩ := usH_get hj
        obtain ⟨o', r', ho', hr', e⟩ := getaff j x' hx'
        rw [Nat.zero_add]
        exact (hord j o' ho' fun hij => (hpair j o' r' ho' hr' hij).2.2.1 ⟨n, hn, by rw [e]; exact hn'⟩).symm
      have hAt : OpAt P Γ sz ops (look (runU (usE ops xs) 0 (fun j => listed.getD j false) E0)) (look (runU (usH xs) 0 (fun j => listed.getD j false) H0)) o x := by
        rcases hrec i o x r ho hx hr with ⟨_, h, hn⟩ | ⟨_, hsk, hg, hd⟩
        · exact opAt_congr eE (fun n h => eH n (.inl (by rw [← hn]; exact h))) (fun d h => eH d (.inr h)) h
        · refine .inr ⟨?_, hd, hsk⟩
          rw [← hg]
          congr 1
          exact (gv_congr fun t ht => eE t (List.mem_append_left _ ht)).symm
      refine opAt_sound hΓ R hAt ho fun ρ' a' w' R' => ih _ a' w' (by simpa using hsz) ?_ (fun k ok hk hlk e he hb => ?_) ⟨ρ', ?_⟩
      · have hlt : i < listed.toList.length := by simpa using his
        have : listed.toList[i] = false := by simpa [his] using h1
        rw [Array.toList_setIfInBounds, List.countP_set hlt, hcnt, this]
        rfl
      · by_cases hki : i = k
        · subst hki
          have : ok = o := by rw [ho] at hk; injection hk with hk; exact hk.symm
          subst this
          by_cases hei : i = e.on
          · have := hC.back i ok ho e he hb; omega
          · rw [getD_set_ne false hei]; exact hedge e he hb
        · rw [getD_set_ne false hki] at hlk
          have h2 := hcl k ok hk hlk e he hb
          by_cases hei : i = e.on
          · rw [← hei, hXi] at h2; cases h2
          · rw [getD_set_ne false hei]; exact h2
      · rw [getD_set_same' his]
        have hzip : (usE ops xs)[i]? = some (updE o.dst x) := by
          unfold usE
          rw [List.getElem?_map, show (ops.zip xs)[i]? = some (o, x) from List.getElem?_zip_eq_some.2 ⟨ho, hx⟩]; rfl
        refine R'.same (fun t y h => ?_) fun n => ?_
        · rw [← h, apE_push]
          refine (runU_insert hzip (fun j k v v' hij hj hu => ?_) t).symm
          obtain ⟨o', ho', hd⟩ := usE_get hj
          obtain ⟨o'', ho'', hd'⟩ := usE_get (ops := ops) (xs := xs) (j := i) (t := k) (v := v) (by rw [hzip, hu])
          have : o'' = o := by rw [ho] at ho''; injection ho'' with h; exact h.symm
          subst this
          obtain ⟨r', hr'⟩ := getr j o' ho'
          exact absurd (show k ∈ dstL o'.dst by rw [hd]; exact List.mem_cons_self ..) ((hpair j o' r' ho' hr' (by omega)).1 k (by rw [hd']; exact List.mem_cons_self ..))
        · rw [apH_push]
          have hH : (usH xs)[i]? = some (updH x) := by unfold usH; rw [List.getElem?_map, hx]; rfl
          refine runU_insert hH (fun j k v v' hij hj hu => ?_) n
          obtain ⟨x', hx', hn'⟩ := usH_get hj
          obtain ⟨o', r', ho', hr', e⟩ := getaff j x' hx'
          obtain ⟨x'', hx'', hn''⟩ := usH_get (xs := xs) (j := i) (n := k) (b := v) (by rw [hH, hu])
          have : x'' = x := by rw [hx] at hx''; injection hx'' with h; exact h.symm
          subst this
          obtain ⟨o3, r3, ho3, hr3, e3⟩ := getaff i x'' hx
          have : r3 = r := by rw [hr] at hr3; injection hr3 with h; exact h.symm
          subst this
          exact hpost j o' ho' ((hpair j o' r' ho' hr' (by omega)).2.2.2 ⟨k, by rw [e3]; exact hn'', by rw [e]; exact hn'⟩ hij)
end
end Sx
end Go.Proofs.Ytffamgiknfphaaa
