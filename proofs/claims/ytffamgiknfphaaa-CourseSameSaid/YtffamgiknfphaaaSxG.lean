/- A symbolic walk: regions, in the text's order and in whatever order is drawn. No conditions: plain lemmas, and the theorem on an order that is drawn. -/
import Derived.Test.YtffamgiknfphaaaSxF
import Derived.Orders
namespace Go.Proofs.Ytffamgiknfphaaa
open Go Go.RowKit

set_option linter.unusedVariables false
namespace Sx

/-! ### updates in some order -/
section
variable {α : Type}
def push (u : Option (Nat × α)) (E : List (Nat × α)) : List (Nat × α) := match u with | some p => p :: E | none => E
def runU : List (Option (Nat × α)) → Nat → (Nat → Bool) → List (Nat × α) → List (Nat × α)
  | [], _, _, E => E
  | u :: us, i, X, E => runU us (i + 1) X (if X i then push u E else E)

theorem look_push {u : Option (Nat × α)} {E E' : List (Nat × α)} {t : Nat} (h : look E t = look E' t) : look (push u E) t = look (push u E') t := by
  cases u with
  | none => exact h
  | some p => obtain ⟨k, v⟩ := p; simp only [push, look_cons]; split <;> first | rfl | exact h
theorem look_push_ne {u : Option (Nat × α)} {E : List (Nat × α)} {t : Nat} (h : ∀ v, u ≠ some (t, v)) : look (push u E) t = look E t := by
  cases u with
  | none => rfl
  | some p =>
    obtain ⟨k, v⟩ := p
    simp only [push, look_cons]
    rw [if_neg (fun e => h v (by rw [e]))]

theorem runU_congr : ∀ (us : List (Option (Nat × α))) (i : Nat) (X Y : Nat → Bool) (E E' : List (Nat × α)) (t : Nat), (∀ j v, us[j]? = some (some (t, v)) → X (i + j) = Y (i + j)) → look E t = look E' t →
    look (runU us i X E) t = look (runU us i Y E') t
  | [], _, _, _, _, _, _, _, h => h
  | u :: us, i, X, Y, E, E', t, hx, h => by
    refine runU_congr us (i + 1) X Y _ _ t (fun j v hj => by have := hx (j + 1) v (by simpa using hj); rwa [show i + (j + 1) = i + 1 + j by omega] at this) ?_
    by_cases hu : ∃ v, u = some (t, v)
    · obtain ⟨v, rfl⟩ := hu
      have := hx 0 v rfl
      rw [Nat.add_zero] at this
      rw [this]
      split
      · exact look_push h
      · exact h
    · have hu : ∀ v, u ≠ some (t, v) := fun v e => hu ⟨v, e⟩
      have e1 : ∀ (b : Bool) (F : List (Nat × α)), look (if b then push u F else F) t = look F t := fun b F => by
        cases b
        · rfl
        · exact look_push_ne hu
      rw [e1, e1]; exact h

theorem runU_last : ∀ (us : List (Option (Nat × α))) (i j0 : Nat) (X : Nat → Bool) (E : List (Nat × α)) (k : Nat) (v : α), us[j0]? = some (some (k, v)) → X (i + j0) = true → (∀ j v', j0 < j → us[j]? = some (some (k, v')) → X (i + j) = false) →
    look (runU us i X E) k = some v
  | [], _, _, _, _, _, _, h, _, _ => by simp at h
  | u :: us, i, 0, X, E, k, v, h, hx, hl => by
    simp at h
    subst h
    rw [Nat.add_zero] at hx
    have e := runU_congr us (i + 1) X (fun _ => false) (push (some (k, v)) E) (push (some (k, v)) E) k (fun j v' hj => by
      have := hl (j + 1) v' (by omega) (by simpa using hj)
      rwa [show i + (j + 1) = i + 1 + j by omega] at this) rfl
    simp only [runU, hx, if_true]
    rw [e]
    have : ∀ (us : List (Option (Nat × α))) (i : Nat) (E : List (Nat × α)), runU us i (fun _ => false) E = E := fun us => by
      induction us with
      | nil => intros; rfl
      | cons u us ih => intro i E; simp only [runU]; exact ih _ _
    rw [this]
    simp [push, look_cons]
  | u :: us, i, j0 + 1, X, E, k, v, h, hx, hl => by
    simp only [runU]
    exact runU_last us (i + 1) j0 X _ k v (by simpa using h) (by rwa [show i + (j0 + 1) = i + 1 + j0 by omega] at hx) (fun j v' hj hv => by
      have := hl (j + 1) v' (by omega) (by simpa using hv)
      rwa [show i + (j + 1) = i + 1 + j by omega] at this)

def also (X : Nat → Bool) (i : Nat) : Nat → Bool := fun j => X j || decide (j = i)

theorem runU_insert {us : List (Option (Nat × α))} {i : Nat} {X : Nat → Bool} {E : List (Nat × α)} {u : Option (Nat × α)} (hu : us[i]? = some u)
    (hl : ∀ j k v v', i < j → us[j]? = some (some (k, v')) → u = some (k, v) → X j = false) (t : Nat) : look (runU us 0 (also X i) E) t = look (push u (runU us 0 X E)) t := by
  by_cases hut : ∃ v, u = some (t, v)
  · obtain ⟨v, rfl⟩ := hut
    rw [runU_last us 0 i (also X i) E t v hu (by simp [also]) (fun j v' hj hv => by
      have := hl j t v v' hj hv rfl
      simp only [also, Nat.zero_add, this, Bool.false_or, decide_eq_false_iff_not]
      omega)]
    simp [push, look_cons]
  · have hne : ∀ v, u ≠ some (t, v) := fun v e => hut ⟨v, e⟩
    rw [look_push_ne hne]
    refine runU_congr us 0 _ _ E E t (fun j v hj => ?_) rfl
    have : j ≠ i := fun e => by rw [e, hu] at hj; exact hne v (by injection hj)
    simp [also, this]
end

def updE (dst : Option Nat) (x : Eff) : Option (Nat × SV) :=
  match x, dst with
  | .val v, some d => some (d, v)
  | .new _ _ v, some d => some (d, v)
  | _, _ => none
def updH (x : Eff) : Option (Nat × Blk) :=
  match x with
  | .new n b _ => some (n, b)
  | .put n b => some (n, b)
  | .val _ => none
theorem apE_push (dst : Option Nat) (x : Eff) (E : Env) : apE dst x E = push (updE dst x) E := by
  cases x <;> cases dst <;> rfl
theorem apH_push (x : Eff) (H : Hp) : apH x H = push (updH x) H := by cases x <;> rfl

/-! ### what comes before an operation -/
def mask (acc : List Nat) (o : Oper) : Nat := o.after.toList.foldl (fun s e => match Region.binds .any e with | true => s ||| 2 ^ e.on ||| acc.getD e.on 0 | false => s) 0
def befs : List Oper → List Nat → List Nat
  | [], acc => acc
  | o :: r, acc => befs r (acc ++ [mask acc o])

theorem mask_bit (acc : List Nat) (j : Nat) : ∀ (es : List Edge) (s : Nat), (es.foldl (fun s e => match Region.binds .any e with | true => s ||| 2 ^ e.on ||| acc.getD e.on 0 | false => s) s).testBit j = true →
    s.testBit j = true ∨ ∃ e ∈ es, Region.binds .any e = true ∧ (e.on = j ∨ (acc.getD e.on 0).testBit j = true)
  | [], s, h => .inl h
  | e :: es, s, h => by
    rcases mask_bit acc j es _ h with h | ⟨e', h1, h2⟩
    · dsimp only at h
      split at h
      · rename_i hb
        rw [Nat.testBit_or, Nat.testBit_or, Nat.testBit_two_pow, Bool.or_eq_true, Bool.or_eq_true, decide_eq_true_eq] at h
        rcases h with (h | h) | h
        · exact .inl h
        · exact .inr ⟨e, List.mem_cons_self .., hb, .inl h⟩
        · exact .inr ⟨e, List.mem_cons_self .., hb, .inr h⟩
      · exact .inl h
    · exact .inr ⟨e', List.mem_cons_of_mem _ h1, h2⟩

theorem befs_length : ∀ (ops : List Oper) (acc : List Nat), (befs ops acc).length = acc.length + ops.length
  | [], acc => rfl
  | o :: r, acc => by rw [befs, befs_length r]; simp; omega
theorem befs_old : ∀ (ops : List Oper) (acc : List Nat) (i : Nat), i < acc.length → (befs ops acc)[i]? = acc[i]?
  | [], acc, i, h => rfl
  | o :: r, acc, i, h => by rw [befs, befs_old r _ i (by simp; omega), List.getElem?_append_left h]
theorem befs_get : ∀ (ops : List Oper) (acc : List Nat) (i : Nat) (o : Oper), ops[i]? = some o → ∃ pre, (befs ops acc)[acc.length + i]? = some (mask pre o) ∧ pre.length = acc.length + i ∧ ∀ j, j < pre.length → pre[j]? = (befs ops acc)[j]?
  | [], acc, i, o, h => by simp at h
  | o' :: r, acc, 0, o, h => by
    simp at h
    subst h
    refine ⟨acc, ?_, rfl, fun j hj => ?_⟩
    · rw [befs, befs_old r _ _ (by simp)]; simp
    · rw [befs, befs_old r _ _ (by simp; omega), List.getElem?_append_left hj]
  | o' :: r, acc, i + 1, o, h => by
    obtain ⟨pre, h1, h2, h3⟩ := befs_get r (acc ++ [mask acc o']) i o (by simpa using h)
    refine ⟨pre, ?_, by simp at h2; omega, h3⟩
    rw [befs]
    simpa [Nat.add_assoc, Nat.add_comm 1 i] using h1

/-- those before an operation whose edges are listed are listed -/
theorem befs_spec {ops : List Oper} {X : Nat → Bool} (hcl : ∀ i o, ops[i]? = some o → X i = true → ∀ e ∈ o.after, Region.binds .any e = true → X e.on = true) :
    ∀ (i : Nat) (o : Oper) (j : Nat), ops[i]? = some o → (∀ e ∈ o.after, Region.binds .any e = true → X e.on = true) → ((befs ops []).getD i 0).testBit j = true → X j = true := by
  intro i
  induction i using Nat.strongRecOn with
  | _ i ih =>
    intro o j ho he hb
    obtain ⟨pre, h1, h2, h3⟩ := befs_get ops [] i o ho
    simp only [List.length_nil, Nat.zero_add] at h1 h2
    rw [List.getD_eq_getElem?_getD, h1, Option.getD_some] at hb
    rcases mask_bit pre j o.after.toList 0 hb with hb | ⟨e, he1, he2, he3⟩
    · simp at hb
    · have hX := he e (by simpa using he1) he2
      rcases he3 with rfl | he3
      · exact hX
      · have hlt : e.on < pre.length := by
          rcases Nat.lt_or_ge e.on pre.length with h | h
          · exact h
          · rw [List.getD_eq_getElem?_getD, List.getElem?_eq_none h] at he3; simp at he3
        rw [List.getD_eq_getElem?_getD, h3 _ hlt, ← List.getD_eq_getElem?_getD] at he3
        have hlen := befs_length ops []
        have hi : i < ops.length := (List.getElem?_eq_some_iff.1 ho).1
        obtain ⟨o', ho'⟩ : ∃ o', ops[e.on]? = some o' := ⟨_, List.getElem?_eq_getElem (by omega)⟩
        exact ih e.on (by omega) o' j ho' (hcl e.on o' ho' hX) he3

/-! ### a region in the text's order -/
inductive GV where
  | yes
  | no
  | ask (b : Bool) (want : Bool)
  | bad
def gvS (want : Bool) : Option SV → GV
  | some (.c (.at (.d (.v (.bool b))))) => .ask b want
  | some (.tup []) => .no
  | _ => .bad
/-- the guard of an operation -/
def gv (ops : List Oper) (e : Nat → Option SV) (o : Oper) : GV :=
  match o.guard with
  | none => .yes
  | some (j, want) => match ops[j]? with
    | some oj => match oj.dst with
      | some t => gvS want (e t)
      | none => .bad
    | none => .bad
def GV.run : GV → Prop → Prop → Prop
  | .yes, A, _ => A
  | .no, _, B => B
  | .ask b true, A, B => br b A B
  | .ask b false, A, B => br b B A
  | .bad, _, _ => False
def GV.val : GV → Option Bool
  | .yes => some true
  | .no => some false
  | .ask b w => some (b == w)
  | .bad => none
theorem GV.run_val {g : GV} {A B : Prop} (h : g.run A B) : (g.val = some true ∧ A) ∨ (g.val = some false ∧ B) := by
  cases g with
  | yes => exact .inl ⟨rfl, h⟩
  | no => exact .inr ⟨rfl, h⟩
  | ask b w =>
    cases w <;> cases b <;> first
    | exact .inl ⟨rfl, br.t h rfl⟩
    | exact .inl ⟨rfl, br.f h rfl⟩
    | exact .inr ⟨rfl, br.t h rfl⟩
    | exact .inr ⟨rfl, br.f h rfl⟩
  | bad => exact h.elim

def skipE : Eff := .val (.tup [])
def dstB (sz : Nat) : Option Nat → Bool
  | some d => Nat.blt d sz
  | none => true

section
variable {P : Program} {M0 : Nat → Prop} {w0 w : World} {sz : Nat} {ρ : Nat → Nat} {E : Env} {H : Hp} {a : Act} {o : Oper} {x : Eff} {Γ : List (Nat × TD)} {ops : List Oper}

theorem gv_wanted (R : Rel M0 w0 sz ρ E H a w) {b : Bool} (h : (gv ops (look E) o).val = some b) : Region.wanted o (yielded ops.toArray a.tmps) = b := by
  unfold gv at h
  unfold Region.wanted
  split at h
  · rename_i hg
    simp only [GV.val, Option.some.injEq] at h
    simp [hg, h]
  · rename_i j want hg
    split at h
    · rename_i oj hj
      split at h
      · rename_i t ht
        simp only [hg]
        have hy : yielded ops.toArray a.tmps j = match a.tmps[t]? with | some (.bool b) => some b | _ => none := by
          have e : ((ops.toArray[j]?).bind (·.dst)).bind (a.tmps[·]?) = a.tmps[t]? := by simp [hj, ht]
          unfold yielded
          rw [e]
          rfl
        unfold gvS at h
        split at h
        · rename_i c hc
          simp only [GV.val, Option.some.injEq] at h
          have h1 : Rep w (Mof M0 ρ H) (.v (.bool c)) (a.tmps.getD t undef) := R.env t _ hc
          have hv : a.tmps[t]? = some (.bool c) := by
            generalize hgd : a.tmps.getD t undef = u at h1
            cases h1
            rw [Array.getD_eq_getD_getElem?] at hgd
            cases hx : a.tmps[t]? with
            | none => rw [hx] at hgd; simp [undef] at hgd
            | some u => rw [hx] at hgd; simpa using hgd
          rw [hy, hv, ← h]
          cases c <;> cases want <;> rfl
        · rename_i hc
          simp only [GV.val, Option.some.injEq] at h
          obtain ⟨vs, h1, h2⟩ := R.env t _ hc
          have hv : yielded ops.toArray a.tmps j = none := by
            rw [hy]
            rw [Array.getD_eq_getD_getElem?] at h1
            cases hx : a.tmps[t]? with
            | none => rfl
            | some u => rw [hx] at h1; simp at h1; subst h1; rfl
          rw [hv, ← h]
          cases want <;> rfl
        · cases h
      · cases h
    · cases h

/-- an operation, wanted or not, in some state -/
def OpAt (P : Program) (Γ : List (Nat × TD)) (sz : Nat) (ops : List Oper) (e : Nat → Option SV) (h : Nat → Option Blk) (o : Oper) (x : Eff) : Prop :=
  ((gv ops e o).val = some true ∧ (stepF P Γ sz o e h).has x) ∨ ((gv ops e o).val = some false ∧ dstB sz o.dst = true ∧ x = skipE)

theorem opAt_sound (hΓ : ∀ t td, look Γ t = some td → TyOK P t td) (R : Rel M0 w0 sz ρ E H a w) (h : OpAt P Γ sz ops (look E) (look H) o x) {i : Nat} (hi : ops[i]? = some o) {K : Act → World → Prop} {Q : Exit → Act → World → Prop}
    (hK : ∀ ρ' a' w', Rel M0 w0 sz ρ' (apE o.dst x E) (apH x H) a' w' → K a' w') : wpOp P ops.toArray Q i K a w := by
  unfold wpOp
  have hi' : ops.toArray[i]? = some o := by simpa using hi
  simp only [hi']
  rcases h with ⟨hg, hs⟩ | ⟨hg, hd, rfl⟩
  · rw [gv_wanted R hg, if_pos rfl]
    exact .inl (step_sound hΓ R hs _ _ fun ρ' v w' R' => hK ρ' _ w' R')
  · rw [gv_wanted R hg, if_neg (by simp)]
    refine hK ρ _ w (R.val (dst := o.dst) (x := .tup []) (fun d hdd => ?_) ⟨[], rfl, trivial⟩ (fun n hn => by simp [SV.names, namesC] at hn))
    rw [hdd] at hd
    simpa [dstB] using hd
end
end Sx
end Go.Proofs.Ytffamgiknfphaaa
