import Derived.Test.YtgdpogdgpfjnoaaGreatDoorGLTRepliesAG
import Derived.Orders
import Derived.Scope
set_option linter.all false
namespace Go.Proofs.YtgdpogdgpfjnoaaGreatDoor
open Go Go.RowKit
namespace Sx
section
variable {α : Type}
def push (u : Option (Nat × α)) (E : List (Nat × α)) : List (Nat × α) := match u with | some p => p :: E | none => E
def runU : List (Option (Nat × α)) → Nat → (Nat → Bool) → List (Nat × α) → List (Nat × α)
  | [], _, _, E => E
  | u :: us, i, X, E => runU us (i + 1) X (if X i then push u E else E)
theorem look_push {u : Option (Nat × α)} {E E' : List (Nat × α)} {t : Nat} (h : look E t = look E' t) : look (push u E) t = look (push u E') t := by
  cases u with
  | none => exact h
  | some p => obtain ⟨k, v⟩ := p; simp only [push, look_cons]; split <;> first | rfl | exact h
theorem look_push_ne {u : Option (Nat × α)} {E : List (Nat × α)} {t : Nat} (h : ∀ v, u ≠ some (t, v)) : look (push u E) t = look E t := by
  cases u with
  | none => rfl
  | some p =>
    obtain ⟨k, v⟩ := p
    simp only [push, look_cons]
    rw [if_neg (fun e => h v (by rw [e]))]
theorem runU_congr : ∀ (us : List (Option (Nat × α))) (i : Nat) (X Y : Nat → Bool) (E E' : List (Nat × α)) (t : Nat), (∀ j v, us[j]? = some (some (t, v)) → X (i + j) = Y (i + j)) → look E t = look E' t →
    look (runU us i X E) t = look (runU us i Y E') t
  | [], _, _, _, _, _, _, _, h => h
  | u :: us, i, X, Y, E, E', t, hx, h => by
    refine runU_congr us (i + 1) X Y _ _ t (fun j v hj => by have := hx (j + 1) v (by simpa using hj); rwa [show i + (j + 1) = i + 1 + j by omega] at this) ?_
    by_cases hu : ∃ v, u = some (t, v)
    · obtain ⟨v, rfl⟩ := hu
      have := hx 0 v rfl
      rw [Nat.add_zero] at this
      rw [this]
      split
      · exact look_push h
      · exact h
    · have hu : ∀ v, u ≠ some (t, v) := fun v e => hu ⟨v, e⟩
      have e1 : ∀ (b : Bool) (F : List (Nat × α)), look (if b then push u F else F) t = look F t := fun b F => by
        cases b
        · rfl
        · exact look_push_ne hu
      rw [e1, e1]; exact h
theorem runU_last : ∀ (us : List (Option (Nat × α))) (i j0 : Nat) (X : Nat → Bool) (E : List (Nat × α)) (k : Nat) (v : α), us[j0]? = some (some (k, v)) → X (i + j0) = true → (∀ j v', j0 < j → us[j]? = some (some (k, v')) → X (i + j) = false) →
    look (runU us i X E) k = some v
  | [], _, _, _, _, _, _, h, _, _ => by simp at h
  | u :: us, i, 0, X, E, k, v, h, hx, hl => by
    simp at h
    subst h
    rw [Nat.add_zero] at hx
    have e := runU_congr us (i + 1) X (fun _ => false) (push (some (k, v)) E) (push (some (k, v)) E) k (fun j v' hj => by
      have := hl (j + 1) v' (by omega) (by simpa using hj)
      rwa [show i + (j + 1) = i + 1 + j by omega] at this) rfl
    simp only [runU, hx, if_true]
    rw [e]
    have : ∀ (us : List (Option (Nat × α))) (i : Nat) (E : List (Nat × α)), runU us i (fun _ => false) E = E := fun us => by
      induction us with
      | nil => intros; rfl
      | cons u us ih => intro i E; simp only [runU]; exact ih _ _
    rw [this]
    simp [push, look_cons]
  | u :: us, i, j0 + 1, X, E, k, v, h, hx, hl => by
    simp only [runU]
    exact runU_last us (i + 1) j0 X _ k v (by simpa using h) (by rwa [show i + (j0 + 1) = i + 1 + j0 by omega] at hx) (fun j v' hj hv => by
      have := hl (j + 1) v' (by omega) (by simpa using hv)
      rwa [show i + (j + 1) = i + 1 + j by omega] at this)
def also (X : Nat → Bool) (i : Nat) : Nat → Bool := fun j => X j || decide (j = i)
theorem runU_insert {us : List (Option (Nat × α))} {i : Nat} {X : Nat → Bool} {E : List (Nat × α)} {u : Option (Nat × α)} (hu : us[i]? = some u)
    (hl : ∀ j k v v', i < j → us[j]? = some (some (k, v')) → u = some (k, v) → X j = false) (t : Nat) : look (runU us 0 (also X i) E) t = look (push u (runU us 0 X E)) t := by
  by_cases hut : ∃ v, u = some (t, v)
  · obtain ⟨v, rfl⟩ := hut
    rw [runU_last us 0 i (also X i) E t v hu (by simp [also]) (fun j v' hj hv => by
      have := hl j t v v' hj hv rfl
      simp only [also, Nat.zero_add, this, Bool.false_or, decide_eq_false_iff_not]
      omega)]
    simp [push, look_cons]
  · have hne : ∀ v, u ≠ some (t, v) := fun v e => hut ⟨v, e⟩
    rw [look_push_ne hne]
    refine runU_congr us 0 _ _ E E t (fun j v hj => ?_) rfl
    have : j ≠ i := fun e => by rw [e, hu] at hj; exact hne v (by injection hj)
    simp [also, this]
end
def updE (dst : Option Nat) (x : Eff) : Option (Nat × SV) :=
  match x, dst with
  | .val v, some d => some (d, v)
  | .new _ _ v, some d => some (d, v)
  | .many _ v, some d => some (d, v)
  | _, _ => none
def updH (x : Eff) : Option (Nat × Blk) :=
  match x with
  | .new n b _ => some (n, b)
  | .put n b => some (n, b)
  | .val _ => none
  | .many _ _ => none
def Eff.single : Eff → Bool
  | .many _ _ => false
  | _ => true
theorem apE_push (dst : Option Nat) (x : Eff) (E : Env) : apE dst x E = push (updE dst x) E := by
  cases x <;> cases dst <;> rfl
theorem apH_push {x : Eff} (hs : x.single = true) (H : Hp) : apH x H = push (updH x) H := by cases x <;> first | rfl | cases hs
def mask (acc : List Nat) (o : Oper) : Nat := o.after.toList.foldl (fun s e => match Region.binds .any e with | true => s ||| 2 ^ e.on ||| acc.getD e.on 0 | false => s) 0
def befs : List Oper → List Nat → List Nat
  | [], acc => acc
  | o :: r, acc => befs r (acc ++ [mask acc o])
theorem mask_bit (acc : List Nat) (j : Nat) : ∀ (es : List Edge) (s : Nat), (es.foldl (fun s e => match Region.binds .any e with | true => s ||| 2 ^ e.on ||| acc.getD e.on 0 | false => s) s).testBit j = true →
    s.testBit j = true ∨ ∃ e ∈ es, Region.binds .any e = true ∧ (e.on = j ∨ (acc.getD e.on 0).testBit j = true)
  | [], s, h => .inl h
  | e :: es, s, h => by
    rcases mask_bit acc j es _ h with h | ⟨e', h1, h2⟩
    · dsimp only at h
      split at h
      · rename_i hb
        rw [Nat.testBit_or, Nat.testBit_or, Nat.testBit_two_pow, Bool.or_eq_true, Bool.or_eq_true, decide_eq_true_eq] at h
        rcases h with (h | h) | h
        · exact .inl h
        · exact .inr ⟨e, List.mem_cons_self .., hb, .inl h⟩
        · exact .inr ⟨e, List.mem_cons_self .., hb, .inr h⟩
      · exact .inl h
    · exact .inr ⟨e', List.mem_cons_of_mem _ h1, h2⟩
theorem befs_length : ∀ (ops : List Oper) (acc : List Nat), (befs ops acc).length = acc.length + ops.length
  | [], acc => rfl
  | o :: r, acc => by rw [befs, befs_length r]; simp; omega
theorem befs_old : ∀ (ops : List Oper) (acc : List Nat) (i : Nat), i < acc.length → (befs ops acc)[i]? = acc[i]?
  | [], acc, i, h => rfl
  | o :: r, acc, i, h => by rw [befs, befs_old r _ i (by simp; omega), List.getElem?_append_left h]
theorem befs_get : ∀ (ops : List Oper) (acc : List Nat) (i : Nat) (o : Oper), ops[i]? = some o → ∃ pre, (befs ops acc)[acc.length + i]? = some (mask pre o) ∧ pre.length = acc.length + i ∧ ∀ j, j < pre.length → pre[j]? = (befs ops acc)[j]?
  | [], acc, i, o, h => by simp at h
  | o' :: r, acc, 0, o, h => by
    simp at h
    subst h
    refine ⟨acc, ?_, rfl, fun j hj => ?_⟩
    · rw [befs, befs_old r _ _ (by simp)]; simp
    · rw [befs, befs_old r _ _ (by simp; omega), List.getElem?_append_left hj]
  | o' :: r, acc, i + 1, o, h => by
    obtain ⟨pre, h1, h2, h3⟩ := befs_get r (acc ++ [mask acc o']) i o (by simpa using h)
    refine ⟨pre, ?_, by simp at h2; omega, h3⟩
    rw [befs]
    simpa [Nat.add_assoc, Nat.add_comm 1 i] using h1
theorem befs_spec {ops : List Oper} {X : Nat → Bool} (hcl : ∀ i o, ops[i]? = some o → X i = true → ∀ e ∈ o.after, Region.binds .any e = true → X e.on = true) :
    ∀ (i : Nat) (o : Oper) (j : Nat), ops[i]? = some o → (∀ e ∈ o.after, Region.binds .any e = true → X e.on = true) → ((befs ops []).getD i 0).testBit j = true → X j = true := by
  intro i
  induction i using Nat.strongRecOn with
  | _ i ih =>
    intro o j ho he hb
    obtain ⟨pre, h1, h2, h3⟩ := befs_get ops [] i o ho
    simp only [List.length_nil, Nat.zero_add] at h1 h2
    rw [List.getD_eq_getElem?_getD, h1, Option.getD_some] at hb
    rcases mask_bit pre j o.after.toList 0 hb with hb | ⟨e, he1, he2, he3⟩
    · simp at hb
    · have hX := he e (by simpa using he1) he2
      rcases he3 with rfl | he3
      · exact hX
      · have hlt : e.on < pre.length := by
          rcases Nat.lt_or_ge e.on pre.length with h | h
          · exact h
          · rw [List.getD_eq_getElem?_getD, List.getElem?_eq_none h] at he3; simp at he3
        rw [List.getD_eq_getElem?_getD, h3 _ hlt, ← List.getD_eq_getElem?_getD] at he3
        have hlen := befs_length ops []
        have hi : i < ops.length := (List.getElem?_eq_some_iff.1 ho).1
        obtain ⟨o', ho'⟩ : ∃ o', ops[e.on]? = some o' := ⟨_, List.getElem?_eq_getElem (by omega)⟩
        exact ih e.on (by omega) o' j ho' (hcl e.on o' ho' hX) he3
inductive GV where
  | yes
  | no
  | ask (b : Bool) (want : Bool)
  | bad
def gvS (want : Bool) : Option SV → GV
  | some (.c (.at (.d (.v (.bool b))))) => .ask b want
  | some (.tup []) => .no
  | _ => .bad
def gv (ops : List Oper) (e : Nat → Option SV) (o : Oper) : GV :=
  match o.guard with
  | none => .yes
  | some (j, want) => match ops[j]? with
    | some oj => match oj.dst with
      | some t => gvS want (e t)
      | none => .bad
    | none => .bad
def GV.run : GV → Prop → Prop → Prop
  | .yes, A, _ => A
  | .no, _, B => B
  | .ask b true, A, B => br b A B
  | .ask b false, A, B => br b B A
  | .bad, _, _ => False
def GV.val : GV → Option Bool
  | .yes => some true
  | .no => some false
  | .ask b w => some (b == w)
  | .bad => none
theorem GV.run_val {g : GV} {A B : Prop} (h : g.run A B) : (g.val = some true ∧ A) ∨ (g.val = some false ∧ B) := by
  cases g with
  | yes => exact .inl ⟨rfl, h⟩
  | no => exact .inr ⟨rfl, h⟩
  | ask b w =>
    cases w <;> cases b <;> first
    | exact .inl ⟨rfl, br.t h rfl⟩
    | exact .inl ⟨rfl, br.f h rfl⟩
    | exact .inr ⟨rfl, br.t h rfl⟩
    | exact .inr ⟨rfl, br.f h rfl⟩
  | bad => exact h.elim
def skipE : Eff := .val (.tup [])
def dstB (sz : Nat) : Option Nat → Bool
  | some d => Nat.blt d sz
  | none => true
section
variable {P : Program} {C M0 : Nat → Prop} {w0 w : World} {sz : Nat} {ρ : Nat → Nm} {E : Env} {H : Hp} {a : Act} {o : Oper} {x : Eff} {Γ : Cfg} {ops : List Oper}
theorem gv_wanted (R : Rel C M0 w0 sz ρ E H a w) {b : Bool} (h : (gv ops (look E) o).val = some b) : Region.wanted o (yielded ops.toArray a.tmps) = b := by
  unfold gv at h
  unfold Region.wanted
  split at h
  · rename_i hg
    simp only [GV.val, Option.some.injEq] at h
    simp [hg, h]
  · rename_i j want hg
    split at h
    · rename_i oj hj
      split at h
      · rename_i t ht
        simp only [hg]
        have hy : yielded ops.toArray a.tmps j = match a.tmps[t]? with | some (.bool b) => some b | _ => none := by
          have e : ((ops.toArray[j]?).bind (·.dst)).bind (a.tmps[·]?) = a.tmps[t]? := by simp [hj, ht]
          unfold yielded
          rw [e]
          rfl
        unfold gvS at h
        split at h
        · rename_i c hc
          simp only [GV.val, Option.some.injEq] at h
          have h1 : Rep w (Mof M0 ρ H) (.v (.bool c)) (a.tmps.getD t undef) := R.env t _ hc
          have hv : a.tmps[t]? = some (.bool c) := by
            generalize hgd : a.tmps.getD t undef = u at h1
            cases h1
            rw [Array.getD_eq_getD_getElem?] at hgd
            cases hx : a.tmps[t]? with
            | none => rw [hx] at hgd; simp [undef] at hgd
            | some u => rw [hx] at hgd; simpa using hgd
          rw [hy, hv, ← h]
          cases c <;> cases want <;> rfl
        · rename_i hc
          simp only [GV.val, Option.some.injEq] at h
          obtain ⟨vs, h1, h2⟩ := R.env t _ hc
          have hv : yielded ops.toArray a.tmps j = none := by
            rw [hy]
            rw [Array.getD_eq_getD_getElem?] at h1
            cases hx : a.tmps[t]? with
            | none => rfl
            | some u => rw [hx] at h1; simp at h1; subst h1; rfl
          rw [hv, ← h]
          cases want <;> rfl
        · cases h
      · cases h
    · cases h
def OpAt (P : Program) (Γ : Cfg) (sz : Nat) (ops : List Oper) (e : Nat → Option SV) (h : Nat → Option Blk) (o : Oper) (x : Eff) : Prop :=
  ((gv ops e o).val = some true ∧ (stepF P Γ sz o e h).has x) ∨ ((gv ops e o).val = some false ∧ dstB sz o.dst = true ∧ x = skipE)
theorem opAt_sound (hΓ : ΓOK P Γ) (hdm : Γ.dm = false → C w0.heap.size) (R : Rel C M0 w0 sz ρ E H a w) (h : OpAt P Γ sz ops (look E) (look H) o x) {i : Nat} (hi : ops[i]? = some o) {K : Act → World → Prop} {Q : Exit → Act → World → Prop}
    (hK : ∀ ρ' a' w', Rel C M0 w0 sz ρ' (apE o.dst x E) (apH x H) a' w' → K a' w') : wpOp P ops.toArray Q i K a w := by
  unfold wpOp
  have hi' : ops.toArray[i]? = some o := by simpa using hi
  simp only [hi']
  rcases h with ⟨hg, hs⟩ | ⟨hg, hd, rfl⟩
  · rw [gv_wanted R hg, if_pos rfl]
    exact .inl (step_sound hΓ hdm R hs _ _ fun ρ' v w' R' => hK ρ' _ w' R')
  · rw [gv_wanted R hg, if_neg (by simp)]
    refine hK ρ _ w (R.val (dst := o.dst) (x := .tup []) (fun d hdd => ?_) ⟨[], rfl, trivial⟩ (fun n hn => by simp [SV.names, namesC] at hn))
    rw [hdd] at hd
    simpa [dstB] using hd
end
end Sx
end Go.Proofs.YtgdpogdgpfjnoaaGreatDoor

namespace Go.Proofs.YtgdpogdgpfjnoaaGreatDoor
open Go Go.RowKit
namespace Sx
def tmpsOf : List Operand → List Nat
  | [] => []
  | .tmp t :: l => t :: tmpsOf l
  | _ :: l => tmpsOf l
def guardTmp (all : List Oper) (o : Oper) : List Nat :=
  match o.guard with
  | none => []
  | some (j, _) => match all[j]? with
    | some oj => match oj.dst with | some t => [t] | none => []
    | none => []
def usesOf (all : List Oper) (o : Oper) : List Nat := guardTmp all o ++ tmpsOf o.op.operands.toList
def affOf : Eff → List Nat
  | .new n _ _ | .put n _ => [n]
  | .val _ => []
  | .many l _ => l.map (·.1)
def dstL : Option Nat → List Nat
  | some d => [d]
  | none => []
theorem mem_tmps : ∀ {l : List Operand} {t : Nat}, Operand.tmp t ∈ l → t ∈ tmpsOf l
  | .tmp u :: l, t, h => by
    rcases List.mem_cons.1 h with h | h
    · injection h with h; subst h; exact List.mem_cons_self ..
    · exact List.mem_cons_of_mem _ (mem_tmps h)
  | .const _ :: l, t, h => by rcases List.mem_cons.1 h with h | h <;> first | (cases h; done) | exact mem_tmps (l := l) h
  | .global _ :: l, t, h => by rcases List.mem_cons.1 h with h | h <;> first | (cases h; done) | exact mem_tmps (l := l) h
  | .func _ :: l, t, h => by rcases List.mem_cons.1 h with h | h <;> first | (cases h; done) | exact mem_tmps (l := l) h
theorem memB_iff {n : Nat} : ∀ {l : List Nat}, memB n l = true ↔ n ∈ l
  | [] => by simp [memB]
  | m :: l => by
    unfold memB
    split
    · rename_i h
      have : n = m := by simpa using h
      simp [this]
    · rename_i h
      have : n ≠ m := by rintro rfl; simp at h
      rw [memB_iff]; simp [this]
section
variable {P : Program} {sz : Nat} {o : Oper} {x : Eff} {Γ : Cfg} {ops : List Oper} {e e' : Nat → Option SV} {h h' : Nat → Option Blk}
theorem valsOf_congr (he : ∀ t ∈ tmpsOf o.op.operands.toList, e t = e' t) : valsOf e o = valsOf e' o := by
  unfold valsOf
  refine List.map_congr_left fun y hy => ?_
  cases y with
  | tmp t => exact he t (mem_tmps hy)
  | _ => rfl
theorem gv_congr (he : ∀ t ∈ guardTmp ops o, e t = e' t) : gv ops e o = gv ops e' o := by
  unfold gv
  unfold guardTmp at he
  split
  · rfl
  · rename_i j want hg
    rw [hg] at he
    simp only at he
    split
    · rename_i oj hj
      rw [hj] at he
      simp only at he
      split
      · rename_i t ht
        rw [ht] at he
        rw [he t (List.mem_cons_self ..)]
      · rfl
    · rfl
theorem opAt_congr (he : ∀ t ∈ usesOf ops o, e t = e' t) (hh : ∀ n ∈ namR o (valsOf e o), h n = h' n) (hd : ∀ d ∈ dstL o.dst, h d = h' d) (H : OpAt P Γ sz ops e h o x) : OpAt P Γ sz ops e' h' o x := by
  have h1 := gv_congr (ops := ops) (o := o) (e := e) (e' := e') fun t ht => he t (List.mem_append_left _ ht)
  have h2 := valsOf_congr (o := o) (e := e) (e' := e') fun t ht => he t (List.mem_append_right _ ht)
  have h3 : stepF P Γ sz o e h = stepF P Γ sz o e' h' := by
    unfold stepF
    rw [← h2]
    congr 1
    · funext n
      unfold onlyN
      split
      · rename_i hm; exact hh n (memB_iff.1 hm)
      · rfl
    · unfold freshB
      cases hx : o.dst with
      | none => rfl
      | some d =>
        simp only
        rw [hd d (by rw [hx]; exact List.mem_cons_self ..)]
  unfold OpAt at *
  rw [← h1, ← h3]
  exact H
def before2 (pre : List Nat) (i j : Nat) : Bool := Nat.testBit (pre.getD j 0) i
def ordB (pre : List Nat) (i j : Nat) : Bool := match Nat.blt i j with | true => before2 pre i j | false => before2 pre j i
def disjB (a b : List Nat) : Bool := a.all fun n => !memB n b
def pairB (pre : List Nat) (i : Nat) (di : List Nat) (ui ni ai : List Nat) (j : Nat) (dj aj : List Nat) : Bool :=
  match Nat.beq i j with
  | true => true
  | false => disjB di dj && (disjB ui dj || ordB pre i j) && (disjB ni aj && disjB di aj || ordB pre i j) && (disjB ai aj || !Nat.blt i j || before2 pre i j)
def chkJ (pre : List Nat) (i : Nat) (di ui ni ai : List Nat) : Nat → List Oper → List (List Nat × List Nat) → Bool
  | _, [], [] => true
  | j, o :: ops, r :: recs => pairB pre i di ui ni ai j (dstL o.dst) r.2 && chkJ pre i di ui ni ai (j + 1) ops recs
  | _, _, _ => false
def chkI (pre : List Nat) (all : List Oper) (rall : List (List Nat × List Nat)) : Nat → List Oper → List (List Nat × List Nat) → Bool
  | _, [], [] => true
  | i, o :: ops, r :: recs => (o.after.toList.all fun e => !Region.binds .any e || Nat.blt e.on i) && chkJ pre i (dstL o.dst) (usesOf all o) r.1 r.2 0 all rall && chkI pre all rall (i + 1) ops recs
  | _, _, _ => false
def chk (all : List Oper) (recs : List (List Nat × List Nat)) : Bool := chkI (befs all []) all recs 0 all recs
theorem chkJ_spec {pre : List Nat} {i : Nat} {di ui ni ai : List Nat} : ∀ {ops : List Oper} {recs : List (List Nat × List Nat)} {j0 : Nat}, chkJ pre i di ui ni ai j0 ops recs = true →
    ops.length = recs.length ∧ ∀ (j : Nat) (o : Oper) (r : List Nat × List Nat), ops[j]? = some o → recs[j]? = some r → pairB pre i di ui ni ai (j0 + j) (dstL o.dst) r.2 = true
  | [], [], j0, h => ⟨rfl, fun j o r ho => by simp at ho⟩
  | o :: ops, r :: recs, j0, h => by
    simp only [chkJ, Bool.and_eq_true] at h
    obtain ⟨h1, h2⟩ := chkJ_spec h.2
    refine ⟨by simp [h1], fun j o' r' ho hr => ?_⟩
    cases j with
    | zero =>
      simp at ho hr
      subst ho hr
      exact h.1
    | succ j =>
      have := h2 j o' r' (by simpa using ho) (by simpa using hr)
      rwa [show j0 + 1 + j = j0 + (j + 1) by omega] at this
  | [], _ :: _, _, h => by simp [chkJ] at h
  | _ :: _, [], _, h => by simp [chkJ] at h
theorem chkI_spec {pre : List Nat} {all : List Oper} {rall : List (List Nat × List Nat)} : ∀ {ops : List Oper} {recs : List (List Nat × List Nat)} {i0 : Nat}, chkI pre all rall i0 ops recs = true →
    ops.length = recs.length ∧ ∀ (i : Nat) (o : Oper) (r : List Nat × List Nat), ops[i]? = some o → recs[i]? = some r →
      (∀ e ∈ o.after, Region.binds .any e = true → e.on < i0 + i) ∧ chkJ pre (i0 + i) (dstL o.dst) (usesOf all o) r.1 r.2 0 all rall = true
  | [], [], i0, h => ⟨rfl, fun j o r ho => by simp at ho⟩
  | o :: ops, r :: recs, i0, h => by
    simp only [chkI, Bool.and_eq_true] at h
    obtain ⟨h1, h2⟩ := chkI_spec h.2
    refine ⟨by simp [h1], fun j o' r' ho hr => ?_⟩
    cases j with
    | zero =>
      simp at ho hr
      subst ho hr
      refine ⟨fun e he hb => ?_, h.1.2⟩
      have := List.all_eq_true.1 h.1.1 e (by simpa using he)
      simpa [hb] using this
    | succ j =>
      have := h2 j o' r' (by simpa using ho) (by simpa using hr)
      rwa [show i0 + 1 + j = i0 + (j + 1) by omega] at this
  | [], _ :: _, _, h => by simp [chkI] at h
  | _ :: _, [], _, h => by simp [chkI] at h
theorem disjB_spec {a b : List Nat} (h : disjB a b = true) : ∀ n ∈ a, n ∉ b := fun n ha hb => by
  have := List.all_eq_true.1 h n ha
  rw [memB_iff.2 hb] at this
  cases this
structure Chk (ops : List Oper) (recs : List (List Nat × List Nat)) : Prop where
  len : ops.length = recs.length
  back : ∀ (i : Nat) (o : Oper), ops[i]? = some o → ∀ e ∈ o.after, Region.binds .any e = true → e.on < i
  pair : ∀ (i j : Nat) (o o' : Oper) (r r' : List Nat × List Nat), ops[i]? = some o → recs[i]? = some r → ops[j]? = some o' → recs[j]? = some r' → i ≠ j →
    (∀ d ∈ dstL o.dst, d ∉ dstL o'.dst) ∧ ((∃ t ∈ usesOf ops o, t ∈ dstL o'.dst) → ordB (befs ops []) i j = true) ∧ ((∃ n, (n ∈ r.1 ∨ n ∈ dstL o.dst) ∧ n ∈ r'.2) → ordB (befs ops []) i j = true) ∧
    ((∃ n ∈ r.2, n ∈ r'.2) → i < j → before2 (befs ops []) i j = true)
theorem chk_spec {ops : List Oper} {recs : List (List Nat × List Nat)} (h : chk ops recs = true) : Chk ops recs := by
  obtain ⟨h1, h2⟩ := chkI_spec h
  have get : ∀ (i : Nat) (o : Oper), ops[i]? = some o → ∃ r, recs[i]? = some r := fun i o ho => by
    have := (List.getElem?_eq_some_iff.1 ho).1
    exact ⟨_, List.getElem?_eq_getElem (by omega)⟩
  refine ⟨h1, fun i o ho e he hb => ?_, fun i j o o' r r' ho hr ho' hr' hij => ?_⟩
  · obtain ⟨r, hr⟩ := get i o ho
    simpa using (h2 i o r ho hr).1 e he hb
  · have hJ := (h2 i o r ho hr).2
    have hp := (chkJ_spec hJ).2 j o' r' ho' hr'
    rw [Nat.zero_add, Nat.zero_add] at hp
    unfold pairB at hp
    split at hp
    · rename_i hb
      exact absurd (by simpa using hb) hij
    · simp only [Bool.and_eq_true, Bool.or_eq_true, Bool.not_eq_true'] at hp
      obtain ⟨⟨⟨p1, p2⟩, p3⟩, p4⟩ := hp
      refine ⟨disjB_spec p1, fun ⟨t, h3, h4⟩ => ?_, fun ⟨n, h3, h4⟩ => ?_, fun ⟨n, h3, h4⟩ hlt => ?_⟩
      · rcases p2 with p2 | p2
        · exact absurd h4 (disjB_spec p2 t h3)
        · exact p2
      · rcases p3 with ⟨p3, p5⟩ | p3
        · rcases h3 with h3 | h3
          · exact absurd h4 (disjB_spec p3 n h3)
          · exact absurd h4 (disjB_spec p5 n h3)
        · exact p3
      · rcases p4 with (p4 | p4) | p4
        · exact absurd h4 (disjB_spec p4 n h3)
        · have : Nat.blt i j = true := by simpa using hlt
          rw [this] at p4; cases p4
        · exact p4
end
section
variable {P : Program} {C M0 : Nat → Prop} {w0 w : World} {sz : Nat} {ρ : Nat → Nm} {E0 : Env} {H0 : Hp} {a : Act} {Γ : Cfg} {ops : List Oper} {xs : List Eff} {recs : List (List Nat × List Nat)} {Q : Exit → Act → World → Prop}
def usE (ops : List Oper) (xs : List Eff) : List (Option (Nat × SV)) := (ops.zip xs).map fun p => updE p.1.dst p.2
def usH (xs : List Eff) : List (Option (Nat × Blk)) := xs.map updH
theorem usE_get {j t : Nat} {v : SV} (h : (usE ops xs)[j]? = some (some (t, v))) : ∃ o, ops[j]? = some o ∧ o.dst = some t := by
  unfold usE at h
  rw [List.getElem?_map] at h
  cases hz : (ops.zip xs)[j]? with
  | none => rw [hz] at h; simp at h
  | some p =>
    rw [hz] at h
    obtain ⟨h1, h2⟩ := List.getElem?_zip_eq_some.1 hz
    refine ⟨p.1, h1, ?_⟩
    simp only [Option.map_some, Option.some.injEq] at h
    unfold updE at h
    split at h <;> first | (injection h with h; injection h with h1 h2; subst h1; assumption) | cases h
theorem usH_get {j n : Nat} {b : Blk} (h : (usH xs)[j]? = some (some (n, b))) : ∃ x, xs[j]? = some x ∧ n ∈ affOf x := by
  unfold usH at h
  rw [List.getElem?_map] at h
  cases hx : xs[j]? with
  | none => rw [hx] at h; simp at h
  | some x =>
    rw [hx] at h
    refine ⟨x, rfl, ?_⟩
    simp only [Option.map_some, Option.some.injEq] at h
    unfold updH at h
    split at h <;> first | (injection h with h; injection h with h1 h2; subst h1; simp [affOf]) | cases h
theorem getD_set_same' {listed : Array Bool} {i : Nat} (h : i < listed.size) : (fun j => (listed.setIfInBounds i true).getD j false) = also (fun j => listed.getD j false) i := by
  funext j
  by_cases hj : j = i
  · subst hj; simp [also, h]
  · have : i ≠ j := fun e => hj e.symm
    simp [also, hj, Array.getElem?_setIfInBounds_ne this]
theorem draw_any (hΓ : ΓOK P Γ) (hdm : Γ.dm = false → C w0.heap.size) (hlen : xs.length = ops.length) (hC : Chk ops recs)
    (hrec : ∀ (i : Nat) (o : Oper) (x : Eff) (r : List Nat × List Nat), ops[i]? = some o → xs[i]? = some x → recs[i]? = some r → r.2 = affOf x ∧ x.single = true ∧ (OpAt P Γ sz ops (look (runU (usE ops xs) 0 (fun j => decide (j < i)) E0)) (look (runU (usH xs) 0 (fun j => decide (j < i)) H0)) o x) ∧
      namR o (valsOf (look (runU (usE ops xs) 0 (fun j => decide (j < i)) E0)) o) = r.1 ∨ (r = ([], []) ∧ x = skipE ∧ (gv ops (look (runU (usE ops xs) 0 (fun j => decide (j < i)) E0)) o).val = some false ∧ dstB sz o.dst = true))
    (hQ : ∀ ρ a w, Rel C M0 w0 sz ρ (runU (usE ops xs) 0 (fun _ => true) E0) (runU (usH xs) 0 (fun _ => true) H0) a w → Q .normal a w) :
    ∀ (fuel : Nat) (listed : Array Bool) (a : Act) (w : World), listed.size = ops.length → listed.toList.countP (fun b => !b) = fuel →
      (∀ i o, ops[i]? = some o → listed.getD i false = true → ∀ e ∈ o.after, Region.binds .any e = true → listed.getD e.on false = true) →
      (∃ ρ, Rel C M0 w0 sz ρ (runU (usE ops xs) 0 (fun j => listed.getD j false) E0) (runU (usH xs) 0 (fun j => listed.getD j false) H0) a w) → wpAny P .any ops.toArray Q fuel listed a w := by
  have hend : ∀ (listed : Array Bool) (a : Act) (w : World), (∀ i, i < ops.length → listed.getD i false = true) →
      (∃ ρ, Rel C M0 w0 sz ρ (runU (usE ops xs) 0 (fun j => listed.getD j false) E0) (runU (usH xs) 0 (fun j => listed.getD j false) H0) a w) → Q .normal a w := by
    rintro listed a w hall ⟨ρ, R⟩
    refine hQ ρ a w (R.same (fun t x h => ?_) fun n => ?_)
    · rw [← h]
      refine runU_congr _ _ _ _ _ _ t (fun j v hj => ?_) rfl
      obtain ⟨o, ho, _⟩ := usE_get hj
      rw [Nat.zero_add]
      exact hall j (List.getElem?_eq_some_iff.1 ho).1
    · refine runU_congr _ _ _ _ _ _ n (fun j v hj => ?_) rfl
      obtain ⟨x, hx, _⟩ := usH_get hj
      rw [Nat.zero_add]
      exact (hall j (by rw [← hlen]; exact (List.getElem?_eq_some_iff.1 hx).1)).symm
  intro fuel
  induction fuel with
  | zero =>
    intro listed a w hsz hcnt hcl hR
    have hall : ∀ i, i < ops.length → listed.getD i false = true := fun i hi => by
      have h0 := List.countP_eq_zero.1 hcnt (listed[i]'(by omega)) (by simp)
      have : i < listed.size := by omega
      simpa [Array.getD, this] using h0
    refine ⟨?_, hend listed a w hall hR⟩
    refine List.eq_nil_iff_forall_not_mem.2 fun i hi => ?_
    obtain ⟨h1, o, ho, _⟩ := mem_ready.1 hi
    have hi' : i < ops.length := by have := (Array.getElem?_eq_some_iff.1 ho).1; simpa using this
    have h2 := hall i hi'
    have : i < listed.size := by omega
    simp [this] at h1 h2
    rw [h1] at h2; cases h2
  | succ fuel ih =>
    intro listed a w hsz hcnt hcl hR
    refine ⟨fun h0 => ?_, fun i hi => ?_⟩
    · refine hend listed a w (fun i => ?_) hR
      induction i using Nat.strongRecOn with
      | _ i ihi =>
        intro hi
        cases hx : listed.getD i false with
        | true => rfl
        | false =>
          exfalso
          obtain ⟨o, ho⟩ : ∃ o, ops[i]? = some o := ⟨_, List.getElem?_eq_getElem hi⟩
          have : i ∈ Region.ready .any ops.toArray listed := by
            refine mem_ready.2 ⟨?_, o, by simpa using ho, fun e he hb => ?_⟩
            · have : i < listed.size := by omega
              simpa [this] using hx
            · have hlt := hC.back i o ho e he hb
              exact ihi e.on hlt (by omega)
          rw [h0] at this
          cases this
    · obtain ⟨h1, o, ho, hedge⟩ := mem_ready.1 hi
      have ho : ops[i]? = some o := by simpa using ho
      have hi' : i < ops.length := (List.getElem?_eq_some_iff.1 ho).1
      have his : i < listed.size := by omega
      have hXi : listed.getD i false = false := by simpa [his] using h1
      obtain ⟨x, hx⟩ : ∃ x, xs[i]? = some x := ⟨_, List.getElem?_eq_getElem (by omega)⟩
      obtain ⟨r, hr⟩ : ∃ r, recs[i]? = some r := ⟨_, List.getElem?_eq_getElem (by have := hC.len; omega)⟩
      obtain ⟨ρ, R⟩ := hR
      have hpre : ∀ j, before2 (befs ops []) j i = true → listed.getD j false = true := fun j hj => befs_spec (X := fun j => listed.getD j false) hcl i o j ho hedge hj
      have hpost : ∀ j o', ops[j]? = some o' → before2 (befs ops []) i j = true → listed.getD j false = false := fun j o' ho' hj => by
        cases hx : listed.getD j false with
        | false => rfl
        | true =>
          have := befs_spec (X := fun j => listed.getD j false) hcl j o' i ho' (hcl j o' ho' hx) hj
          rw [show listed.getD i false = false from hXi] at this; cases this
      have hord : ∀ j o', ops[j]? = some o' → (i ≠ j → ordB (befs ops []) i j = true) → listed.getD j false = decide (j < i) := fun j o' ho' h => by
        by_cases hij : i = j
        · subst hij; simp [hXi]
        · have h := h hij
          unfold ordB at h
          split at h
          · rename_i hb
            have hlt : i < j := by simpa using hb
            rw [hpost j o' ho' h]
            have : ¬ j < i := by omega
            simp [this]
          · rename_i hb
            have hlt : ¬ i < j := fun hlt => by
              have : Nat.blt i j = true := by simpa using hlt
              rw [this] at hb; cases hb
            rw [hpre j h]
            have : j < i := by omega
            simp [this]
      have hpair := fun (j : Nat) (o' : Oper) (r' : List Nat × List Nat) (ho' : ops[j]? = some o') (hr' : recs[j]? = some r') (hij : i ≠ j) => hC.pair i j o o' r r' ho hr ho' hr' hij
      have getr : ∀ j o', ops[j]? = some o' → ∃ r', recs[j]? = some r' := fun j o' ho' => by
        have := (List.getElem?_eq_some_iff.1 ho').1
        have := hC.len
        exact ⟨_, List.getElem?_eq_getElem (by omega)⟩
      have getaff : ∀ (j : Nat) (x' : Eff), xs[j]? = some x' → ∃ (o' : Oper) (r' : List Nat × List Nat), ops[j]? = some o' ∧ recs[j]? = some r' ∧ r'.2 = affOf x' := fun j x' hx' => by
        have hj := (List.getElem?_eq_some_iff.1 hx').1
        obtain ⟨o', ho'⟩ : ∃ o', ops[j]? = some o' := ⟨_, List.getElem?_eq_getElem (by omega)⟩
        obtain ⟨r', hr'⟩ := getr j o' ho'
        refine ⟨o', r', ho', hr', ?_⟩
        rcases hrec j o' x' r' ho' hx' hr' with ⟨h, _, _⟩ | ⟨h, h', _⟩
        · exact h
        · rw [h, h']; rfl
      have eE : ∀ t, (t ∈ usesOf ops o) → look (runU (usE ops xs) 0 (fun j => decide (j < i)) E0) t = look (runU (usE ops xs) 0 (fun j => listed.getD j false) E0) t := fun t ht => by
        refine runU_congr _ _ _ _ _ _ t (fun j v hj => ?_) rfl
        obtain ⟨o', ho', hd⟩ := usE_get hj
        rw [Nat.zero_add]
        obtain ⟨r', hr'⟩ := getr j o' ho'
        exact (hord j o' ho' fun hij => (hpair j o' r' ho' hr' hij).2.1 ⟨t, ht, by rw [hd]; exact List.mem_cons_self ..⟩).symm
      have eH : ∀ n, (n ∈ r.1 ∨ n ∈ dstL o.dst) → look (runU (usH xs) 0 (fun j => decide (j < i)) H0) n = look (runU (usH xs) 0 (fun j => listed.getD j false) H0) n := fun n hn => by
        refine runU_congr _ _ _ _ _ _ n (fun j v hj => ?_) rfl
        obtain ⟨x', hx', hn'⟩ := usH_get hj
        obtain ⟨o', r', ho', hr', e⟩ := getaff j x' hx'
        rw [Nat.zero_add]
        exact (hord j o' ho' fun hij => (hpair j o' r' ho' hr' hij).2.2.1 ⟨n, hn, by rw [e]; exact hn'⟩).symm
      have hAt : OpAt P Γ sz ops (look (runU (usE ops xs) 0 (fun j => listed.getD j false) E0)) (look (runU (usH xs) 0 (fun j => listed.getD j false) H0)) o x := by
        rcases hrec i o x r ho hx hr with ⟨_, _, h, hn⟩ | ⟨_, hsk, hg, hd⟩
        · exact opAt_congr eE (fun n h => eH n (.inl (by rw [← hn]; exact h))) (fun d h => eH d (.inr h)) h
        · refine .inr ⟨?_, hd, hsk⟩
          rw [← hg]
          congr 1
          exact (gv_congr fun t ht => eE t (List.mem_append_left _ ht)).symm
      have hsingle : x.single = true := by
        rcases hrec i o x r ho hx hr with ⟨_, hs, _⟩ | ⟨_, hsk, _⟩
        · exact hs
        · rw [hsk]; rfl
      refine opAt_sound hΓ hdm R hAt ho fun ρ' a' w' R' => ih _ a' w' (by simpa using hsz) ?_ (fun k ok hk hlk e he hb => ?_) ⟨ρ', ?_⟩
      · have hlt : i < listed.toList.length := by simpa using his
        have : listed.toList[i] = false := by simpa [his] using h1
        rw [Array.toList_setIfInBounds, List.countP_set hlt, hcnt, this]
        rfl
      · by_cases hki : i = k
        · subst hki
          have : ok = o := by rw [ho] at hk; injection hk with hk; exact hk.symm
          subst this
          by_cases hei : i = e.on
          · have := hC.back i ok ho e he hb; omega
          · rw [getD_set_ne false hei]; exact hedge e he hb
        · rw [getD_set_ne false hki] at hlk
          have h2 := hcl k ok hk hlk e he hb
          by_cases hei : i = e.on
          · rw [← hei, hXi] at h2; cases h2
          · rw [getD_set_ne false hei]; exact h2
      · rw [getD_set_same' his]
        have hzip : (usE ops xs)[i]? = some (updE o.dst x) := by
          unfold usE
          rw [List.getElem?_map, show (ops.zip xs)[i]? = some (o, x) from List.getElem?_zip_eq_some.2 ⟨ho, hx⟩]; rfl
        refine R'.same (fun t y h => ?_) fun n => ?_
        · rw [← h, apE_push]
          refine (runU_insert hzip (fun j k v v' hij hj hu => ?_) t).symm
          obtain ⟨o', ho', hd⟩ := usE_get hj
          obtain ⟨o'', ho'', hd'⟩ := usE_get (ops := ops) (xs := xs) (j := i) (t := k) (v := v) (by rw [hzip, hu])
          have : o'' = o := by rw [ho] at ho''; injection ho'' with h; exact h.symm
          subst this
          obtain ⟨r', hr'⟩ := getr j o' ho'
          exact absurd (show k ∈ dstL o'.dst by rw [hd]; exact List.mem_cons_self ..) ((hpair j o' r' ho' hr' (by omega)).1 k (by rw [hd']; exact List.mem_cons_self ..))
        · rw [apH_push hsingle]
          have hH : (usH xs)[i]? = some (updH x) := by unfold usH; rw [List.getElem?_map, hx]; rfl
          refine runU_insert hH (fun j k v v' hij hj hu => ?_) n
          obtain ⟨x', hx', hn'⟩ := usH_get hj
          obtain ⟨o', r', ho', hr', e⟩ := getaff j x' hx'
          obtain ⟨x'', hx'', hn''⟩ := usH_get (xs := xs) (j := i) (n := k) (b := v) (by rw [hH, hu])
          have : x'' = x := by rw [hx] at hx''; injection hx'' with h; exact h.symm
          subst this
          obtain ⟨o3, r3, ho3, hr3, e3⟩ := getaff i x'' hx
          have : r3 = r := by rw [hr] at hr3; injection hr3 with h; exact h.symm
          subst this
          exact hpost j o' ho' ((hpair j o' r' ho' hr' (by omega)).2.2.2 ⟨k, by rw [e3]; exact hn'', by rw [e]; exact hn'⟩ hij)
end
end Sx
end Go.Proofs.YtgdpogdgpfjnoaaGreatDoor

namespace Go.Proofs.YtgdpogdgpfjnoaaGreatDoor
open Go Go.RowKit
namespace Sx
def frcV (v : Value) (k : Value → Prop) : Prop :=
  match v with
  | .int c n => k (.int c n)
  | .bool b => k (.bool b)
  | .string s => k (.string s)
  | .agg l => k (.agg l)
  | .pointer p => k (.pointer p)
  | v => k v
theorem frcV_iff (v : Value) (k : Value → Prop) : frcV v k ↔ k v := by cases v <;> exact Iff.rfl
def frcD (x : D) (k : D → Prop) : Prop := match x with | .v x => frcV x fun x => k (.v x) | .list n l => k (.list n l) | .nil n => k (.nil n) | .emp n => k (.emp n) | .ref l => k (.ref l) | .clo f l => k (.clo f l)
theorem frcD_iff (x : D) (k : D → Prop) : frcD x k ↔ k x := by
  cases x with
  | v x => exact frcV_iff x (fun x => k (.v x))
  | _ => exact Iff.rfl
def frcA (x : At) (k : At → Prop) : Prop :=
  match x with
  | .d x => frcD x fun x => k (.d x)
  | .ptr n o => k (.ptr n o)
  | .osl n l => k (.osl n l)
  | .rp n l c i o => k (.rp n l c i o)
  | .ep a b c d => k (.ep a b c d)
  | .fn f c => k (.fn f c)
theorem frcA_iff (x : At) (k : At → Prop) : frcA x k ↔ k x := by
  cases x with
  | d x => exact frcD_iff x (fun x => k (.d x))
  | _ => exact Iff.rfl
def frcAs : List At → (List At → Prop) → Prop
  | [], k => k []
  | a :: l, k => frcA a fun a => frcAs l fun l => k (a :: l)
theorem frcAs_iff : ∀ (x : List At) (k : List At → Prop), frcAs x k ↔ k x
  | [], k => Iff.rfl
  | a :: l, k => by simp only [frcAs]; rw [frcA_iff, frcAs_iff l]
def frcC (x : SC) (k : SC → Prop) : Prop := match x with | .at a => frcA a fun a => k (.at a) | .agg l => frcAs l fun l => k (.agg l)
theorem frcC_iff (x : SC) (k : SC → Prop) : frcC x k ↔ k x := by
  cases x with
  | «at» a => exact frcA_iff a (fun a => k (.at a))
  | agg l => exact frcAs_iff l (fun l => k (.agg l))
def frcCs : List SC → (List SC → Prop) → Prop
  | [], k => k []
  | a :: l, k => frcC a fun a => frcCs l fun l => k (a :: l)
theorem frcCs_iff : ∀ (x : List SC) (k : List SC → Prop), frcCs x k ↔ k x
  | [], k => Iff.rfl
  | a :: l, k => by simp only [frcCs]; rw [frcC_iff, frcCs_iff l]
def frcS (x : SV) (k : SV → Prop) : Prop := match x with | .c x => frcC x fun x => k (.c x) | .tup l => frcCs l fun l => k (.tup l)
theorem frcS_iff (x : SV) (k : SV → Prop) : frcS x k ↔ k x := by
  cases x with
  | c x => exact frcC_iff x (fun x => k (.c x))
  | tup l => exact frcCs_iff l (fun l => k (.tup l))
def frcB (x : Blk) (k : Blk → Prop) : Prop := match x with | .own l => frcAs l fun l => k (.own l) | .row a b c => k (.row a b c) | .frz => k .frz
theorem frcB_iff (x : Blk) (k : Blk → Prop) : frcB x k ↔ k x := by
  cases x with
  | own l => exact frcAs_iff l (fun l => k (.own l))
  | row a b c => exact Iff.rfl
  | frz => exact Iff.rfl
def frcHs : List (Nat × Blk) → (List (Nat × Blk) → Prop) → Prop
  | [], k => k []
  | (n, b) :: l, k => frcB b fun b => frcHs l fun l => k ((n, b) :: l)
theorem frcHs_iff : ∀ (x : List (Nat × Blk)) (k : List (Nat × Blk) → Prop), frcHs x k ↔ k x
  | [], k => Iff.rfl
  | (n, b) :: l, k => by simp only [frcHs]; rw [frcB_iff, frcHs_iff l]
def frcE (x : Eff) (k : Eff → Prop) : Prop :=
  match x with
  | .val x => frcS x fun x => k (.val x)
  | .new n b x => frcB b fun b => frcS x fun x => k (.new n b x)
  | .put n b => frcB b fun b => k (.put n b)
  | .many l x => frcHs l fun l => frcS x fun x => k (.many l x)
theorem frcE_iff (x : Eff) (k : Eff → Prop) : frcE x k ↔ k x := by
  cases x <;> simp only [frcE, frcS_iff, frcB_iff, frcHs_iff]
def frcN : List Nat → (List Nat → Prop) → Prop
  | [], k => k []
  | a :: l, k => frcN l fun l => k (a :: l)
theorem frcN_iff : ∀ (x : List Nat) (k : List Nat → Prop), frcN x k ↔ k x
  | [], k => Iff.rfl
  | a :: l, k => by simp only [frcN]; rw [frcN_iff l]
section
variable (P : Program) (Γ : Cfg) (sz : Nat)
def ap2 (dst : Option Nat) (x : Eff) (E : Env) (H : Hp) (k : Env → Hp → Prop) : Prop :=
  match x, dst with
  | .val v, some d => k ((d, v) :: E) H
  | .new n b v, some d => k ((d, v) :: E) ((n, b) :: H)
  | .put n b, _ => k E ((n, b) :: H)
  | .val _, none => k E H
  | .new n b _, none => k E ((n, b) :: H)
  | .many l v, some d => k ((d, v) :: E) (l ++ H)
  | .many l _, none => k E (l ++ H)
def sngE (x : Eff) (p : Prop) : Prop := match x with | .many _ _ => False | _ => p
theorem sngE_iff (x : Eff) (p : Prop) : sngE x p ↔ x.single = true ∧ p := by cases x <;> simp [sngE, Eff.single]
theorem ap2_iff (dst : Option Nat) (x : Eff) (E : Env) (H : Hp) (k : Env → Hp → Prop) : ap2 dst x E H k ↔ k (apE dst x E) (apH x H) := by
  cases x <;> cases dst <;> exact Iff.rfl
def consS (all : List Oper) (o : Oper) (ih : Env → Hp → (Env → Hp → Prop) → Prop) (E : Env) (H : Hp) (k : Env → Hp → Prop) : Prop :=
  (gv all (look E) o).run ((stepF P Γ sz o (look E) (look H)).run fun x => frcE x fun x => ap2 o.dst x E H fun E H => ih E H k)
      (match dstB sz o.dst with | true => ap2 o.dst skipE E H fun E H => ih E H k | false => False)
noncomputable def regS (all : List Oper) (l : List Oper) : Env → Hp → (Env → Hp → Prop) → Prop :=
  List.rec (motive := fun _ => Env → Hp → (Env → Hp → Prop) → Prop) (fun E H k => k E H) (fun o _ ih => consS P Γ sz all o ih) l
theorem regS_cons (all : List Oper) (o : Oper) (r : List Oper) (E : Env) (H : Hp) (k : Env → Hp → Prop) : regS P Γ sz all (o :: r) E H k = ((gv all (look E) o).run ((stepF P Γ sz o (look E) (look H)).run fun x => frcE x fun x => ap2 o.dst x E H fun E H => regS P Γ sz all r E H k)
      (match dstB sz o.dst with | true => ap2 o.dst skipE E H fun E H => regS P Γ sz all r E H k | false => False)) := rfl
abbrev Recs := List (List Nat × List Nat)
def consD (all : List Oper) (o : Oper) (ih : Env → Hp → Recs → (Env → Hp → Recs → Prop) → Prop) (E : Env) (H : Hp) (recs : Recs) (k : Env → Hp → Recs → Prop) : Prop :=
  (gv all (look E) o).run ((stepF P Γ sz o (look E) (look H)).run fun x => frcE x fun x => sngE x (frcN (namR o (valsOf (look E) o)) fun ns => frcN (affOf x) fun af => ap2 o.dst x E H fun E H => ih E H ((ns, af) :: recs) k))
      (match dstB sz o.dst with | true => ap2 o.dst skipE E H fun E H => ih E H (([], []) :: recs) k | false => False)
noncomputable def regD (all : List Oper) (l : List Oper) : Env → Hp → Recs → (Env → Hp → Recs → Prop) → Prop :=
  List.rec (motive := fun _ => Env → Hp → Recs → (Env → Hp → Recs → Prop) → Prop) (fun E H recs k => k E H recs) (fun o _ ih => consD P Γ sz all o ih) l
theorem regD_cons (all : List Oper) (o : Oper) (r : List Oper) (E : Env) (H : Hp) (recs : Recs) (k : Env → Hp → Recs → Prop) : regD P Γ sz all (o :: r) E H recs k =
    ((gv all (look E) o).run ((stepF P Γ sz o (look E) (look H)).run fun x => frcE x fun x => sngE x (frcN (namR o (valsOf (look E) o)) fun ns => frcN (affOf x) fun af => ap2 o.dst x E H fun E H => regD P Γ sz all r E H ((ns, af) :: recs) k))
      (match dstB sz o.dst with | true => ap2 o.dst skipE E H fun E H => regD P Γ sz all r E H (([], []) :: recs) k | false => False)) := rfl
structure LoopP (dm : Bool) (body : Code) (E : Env) (H : Hp) (k : Exit → Env → Hp → Prop) : Prop where
  run : ∀ (C M0 : Nat → Prop) (w0 : World) (ρ : Nat → Nm) (a : Act) (w : World) (Q : Exit → Act → World → Prop), (dm = false → C w0.heap.size) → Rel C M0 w0 sz ρ E H a w →
    (∀ ex E' H' ρ' a' w', k ex E' H' → Rel C M0 w0 sz ρ' E' H' a' w' → Q ex a' w') → (Code.loop body).wp P Q a w
structure NodeP (dm : Bool) (node : Code) (E : Env) (H : Hp) (k : Exit → Env → Hp → Prop) : Prop where
  run : ∀ (C M0 : Nat → Prop) (w0 : World) (ρ : Nat → Nm) (a : Act) (w : World) (Q : Exit → Act → World → Prop), (dm = false → C w0.heap.size) → Rel C M0 w0 sz ρ E H a w →
    (∀ ex E' H' ρ' a' w', k ex E' H' → Rel C M0 w0 sz ρ' E' H' a' w' → Q ex a' w') → node.wp P Q a w
abbrev KP := Exit → Env → Hp → Prop
def cRegion (ops : Array Oper) (draw : Bool) (E : Env) (H : Hp) (k : KP) : Prop :=
  match draw with
  | false => regS P Γ sz ops.toList ops.toList E H fun E H => k .normal E H
  | true => regD P Γ sz ops.toList ops.toList E H [] fun E H recs => chk ops.toList recs.reverse = true ∧ k .normal E H
def cSeq (iha ihb : Env → Hp → KP → Prop) (E : Env) (H : Hp) (k : KP) : Prop :=
  iha E H fun ex E H => match ex with
    | .normal => ihb E H k
    | ex => k ex E H
def cCond (c : Operand) (iht ihe : Env → Hp → KP → Prop) (E : Env) (H : Hp) (k : KP) : Prop :=
  match ev (look E) c with
  | some (.c (.at (.d (.v (.bool b))))) => br b (iht E H k) (ihe E H k)
  | _ => False
def cBlock (id : Nat) (ih : Env → Hp → KP → Prop) (E : Env) (H : Hp) (k : KP) : Prop :=
  ih E H fun ex E H => match ex with
    | .exit id' => match Nat.beq id' id with | true => k .normal E H | false => k (.exit id') E H
    | ex => k ex E H
noncomputable def code (c : Code) : Env → Hp → KP → Prop :=
  Code.rec (motive := fun _ => Env → Hp → KP → Prop)
    (fun E H k => k .normal E H) (fun _ ops draw => cRegion P Γ sz ops draw) (fun _ _ iha ihb => cSeq iha ihb) (fun c _ _ iht ihe => cCond c iht ihe) (fun id _ ih => cBlock id ih)
    (fun body _ E H k => LoopP P sz Γ.dm body E H k) (fun f ps a c _ _ E H k => NodeP P sz Γ.dm (.rangeFunc f ps a c) E H k) (fun id E H k => k (.exit id) E H) (fun c _ E H k => NodeP P sz Γ.dm (.scope c) E H k) (fun _ E H k => k .normal E H) (fun l E H k => k (.goto l) E H)
    (fun E H k => k .ret E H) (fun _ _ _ _ => False) c
end
section
variable {P : Program} {C M0 : Nat → Prop} {w0 : World} {sz : Nat} {Γ : Cfg}
theorem regS_sound (hΓ : ΓOK P Γ) (hdm : Γ.dm = false → C w0.heap.size) {all : List Oper} {k : Env → Hp → Prop} {Q : Exit → Act → World → Prop} (hQ : ∀ E H ρ a w, k E H → Rel C M0 w0 sz ρ E H a w → Q .normal a w) :
    ∀ (l : List Oper) (i : Nat) (E : Env) (H : Hp) (ρ : Nat → Nm) (a : Act) (w : World), (∀ j, l[j]? = all[i + j]?) → Rel C M0 w0 sz ρ E H a w → regS P Γ sz all l E H k → wpOps P all.toArray Q (List.range' i l.length) a w
  | [], i, E, H, ρ, a, w, hl, R, h => hQ E H ρ a w h R
  | o :: r, i, E, H, ρ, a, w, hl, R, h => by
    have h0 : all[i]? = some o := by simpa using (hl 0).symm
    rw [List.length_cons, List.range'_succ, wpOps_cons]
    rw [regS_cons] at h
    have rec' : ∀ x, regS P Γ sz all r (apE o.dst x E) (apH x H) k → ∀ ρ' a' w', Rel C M0 w0 sz ρ' (apE o.dst x E) (apH x H) a' w' → wpOps P all.toArray Q (List.range' (i + 1) r.length) a' w' := fun x hx ρ' a' w' R' =>
      regS_sound hΓ hdm hQ r (i + 1) _ _ ρ' a' w' (fun j => by have := hl (j + 1); simpa [Nat.add_assoc, Nat.add_comm 1 j] using this) R' hx
    rcases GV.run_val h with ⟨hg, h⟩ | ⟨hg, h⟩
    · obtain ⟨x, hx, hk⟩ := SR.run_has h
      rw [frcE_iff, ap2_iff] at hk
      exact opAt_sound hΓ hdm R (.inl ⟨hg, hx⟩) h0 (rec' x hk)
    · split at h
      · rename_i hd
        rw [ap2_iff] at h
        exact opAt_sound hΓ hdm R (.inr ⟨hg, hd, rfl⟩) h0 (rec' skipE h)
      · exact h.elim
theorem runU_shift {α : Type} : ∀ (us : List (Option (Nat × α))) (i : Nat) (X : Nat → Bool) (E : List (Nat × α)), runU us (i + 1) X E = runU us i (fun j => X (j + 1)) E
  | [], _, _, _ => rfl
  | u :: us, i, X, E => by simp only [runU]; exact runU_shift us (i + 1) X _
theorem runU_none {α : Type} : ∀ (us : List (Option (Nat × α))) (i : Nat) (E : List (Nat × α)), runU us i (fun _ => false) E = E
  | [], _, _ => rfl
  | u :: us, i, E => by simp only [runU]; exact runU_none us (i + 1) E
theorem lt_zero_fun : (fun j : Nat => decide (j < 0)) = fun _ => false := by funext j; simp
theorem lt_succ_fun (i : Nat) : (fun j : Nat => (fun j => decide (j < i + 1)) (j + 1)) = fun j => decide (j < i) := by funext j; simp
def RecOK (P : Program) (Γ : Cfg) (sz : Nat) (all : List Oper) (e : Nat → Option SV) (h : Nat → Option Blk) (o : Oper) (x : Eff) (r : List Nat × List Nat) : Prop :=
  r.2 = affOf x ∧ x.single = true ∧ OpAt P Γ sz all e h o x ∧ namR o (valsOf e o) = r.1 ∨ (r = ([], []) ∧ x = skipE ∧ (gv all e o).val = some false ∧ dstB sz o.dst = true)
theorem regD_trace {all : List Oper} {k : Env → Hp → List (List Nat × List Nat) → Prop} : ∀ (l : List Oper) (E : Env) (H : Hp) (recs0 : List (List Nat × List Nat)), regD P Γ sz all l E H recs0 k →
    ∃ (xs : List Eff) (recs : List (List Nat × List Nat)), xs.length = l.length ∧ k (runU (usE l xs) 0 (fun _ => true) E) (runU (usH xs) 0 (fun _ => true) H) (recs.reverse ++ recs0) ∧
      ∀ (i : Nat) (o : Oper) (x : Eff) (r : List Nat × List Nat), l[i]? = some o → xs[i]? = some x → recs[i]? = some r →
        RecOK P Γ sz all (look (runU (usE l xs) 0 (fun j => decide (j < i)) E)) (look (runU (usH xs) 0 (fun j => decide (j < i)) H)) o x r
  | [], E, H, recs0, h => ⟨[], [], rfl, h, fun i o x r ho => by simp at ho⟩
  | o :: l, E, H, recs0, h => by
    rw [regD_cons] at h
    have fin : ∀ (x : Eff) (r : List Nat × List Nat), x.single = true → RecOK P Γ sz all (look E) (look H) o x r → regD P Γ sz all l (apE o.dst x E) (apH x H) (r :: recs0) k →
        ∃ (xs : List Eff) (recs : List (List Nat × List Nat)), xs.length = (o :: l).length ∧ k (runU (usE (o :: l) xs) 0 (fun _ => true) E) (runU (usH xs) 0 (fun _ => true) H) (recs.reverse ++ recs0) ∧
          ∀ (i : Nat) (o' : Oper) (x : Eff) (r : List Nat × List Nat), (o :: l)[i]? = some o' → xs[i]? = some x → recs[i]? = some r →
            RecOK P Γ sz all (look (runU (usE (o :: l) xs) 0 (fun j => decide (j < i)) E)) (look (runU (usH xs) 0 (fun j => decide (j < i)) H)) o' x r := fun x r hsg hr hk => by
      obtain ⟨xs, recs, h1, h2, h3⟩ := regD_trace l _ _ _ hk
      have eE : ∀ X, runU (usE (o :: l) (x :: xs)) 0 X E = runU (usE l xs) 0 (fun j => X (j + 1)) (if X 0 then apE o.dst x E else E) := fun X => by
        rw [← runU_shift, apE_push]; rfl
      have eH : ∀ X, runU (usH (x :: xs)) 0 X H = runU (usH xs) 0 (fun j => X (j + 1)) (if X 0 then apH x H else H) := fun X => by
        rw [← runU_shift, apH_push hsg]; rfl
      refine ⟨x :: xs, r :: recs, by simp [h1], ?_, fun i o' x' r' ho hx hr' => ?_⟩
      · rw [eE, eH]
        simpa using h2
      · cases i with
        | zero =>
          simp at ho hx hr'
          subst ho hx hr'
          rw [lt_zero_fun, runU_none, runU_none]
          exact hr
        | succ i =>
          rw [eE, eH, lt_succ_fun]
          simpa using h3 i o' x' r' (by simpa using ho) (by simpa using hx) (by simpa using hr')
    rcases GV.run_val h with ⟨hg, h⟩ | ⟨hg, h⟩
    · obtain ⟨x, hx, hk⟩ := SR.run_has h
      rw [frcE_iff, sngE_iff, frcN_iff, frcN_iff, ap2_iff] at hk
      exact fin x _ hk.1 (.inl ⟨rfl, hk.1, .inl ⟨hg, hx⟩, rfl⟩) hk.2
    · split at h
      · rename_i hd
        rw [ap2_iff] at h
        exact fin skipE _ rfl (.inr ⟨rfl, rfl, hg, hd⟩) h
      · exact h.elim
theorem regD_sound (hm : P.follows .mixedOrders = true) (hΓ : ΓOK P Γ) (hdm : Γ.dm = false → C w0.heap.size) {ops : Array Oper} {id : Nat} {k : Env → Hp → Prop} {Q : Exit → Act → World → Prop} (hQ : ∀ E H ρ a w, k E H → Rel C M0 w0 sz ρ E H a w → Q .normal a w)
    {E : Env} {H : Hp} {ρ : Nat → Nm} {a : Act} {w : World} (R : Rel C M0 w0 sz ρ E H a w) (h : regD P Γ sz ops.toList ops.toList E H [] fun E H recs => chk ops.toList recs.reverse = true ∧ k E H) : (Code.region id ops true).wp P Q a w := by
  obtain ⟨xs, recs, h1, ⟨h2, h3⟩, h4⟩ := regD_trace _ _ _ _ h
  rw [List.append_nil, List.reverse_reverse] at h2
  refine wp_region_any hm ?_
  have R' : Rel C M0 w0 sz ρ E H a { w with drawn := w.drawn + 1 } := R.grow ⟨rfl, rfl, rfl, Nat.le_refl _, fun _ _ => rfl⟩ (.inr (Nat.le_succ _))
  have hf : (fun j => (Array.replicate ops.size false).getD j false) = fun _ => false := by
    funext j
    simp [Array.getElem?_replicate]
    split <;> rfl
  have := draw_any (M0 := M0) (w0 := w0) (Q := Q) hΓ hdm h1 (chk_spec h2) (fun i o x r ho hx hr => h4 i o x r ho hx hr) (fun ρ a w R => hQ _ _ ρ a w h3 R) ops.size (Array.replicate ops.size false) a { w with drawn := w.drawn + 1 } (by simp)
    (by simp [List.countP_replicate]) (fun i o ho hl => by simp [Array.getElem?_replicate] at hl; split at hl <;> simp at hl) ⟨ρ, by rw [hf, runU_none, runU_none]; exact R'⟩
  simpa using this
theorem code_sound (hm : P.follows .mixedOrders = true) (hΓ : ΓOK P Γ) (hdm : Γ.dm = false → C w0.heap.size) : ∀ (c : Code) (E : Env) (H : Hp) (k : Exit → Env → Hp → Prop), code P Γ sz c E H k →
    ∀ (ρ : Nat → Nm) (a : Act) (w : World) (Q : Exit → Act → World → Prop), Rel C M0 w0 sz ρ E H a w → (∀ ex E' H' ρ' a' w', k ex E' H' → Rel C M0 w0 sz ρ' E' H' a' w' → Q ex a' w') → c.wp P Q a w
  | .skip, E, H, k, h, ρ, a, w, Q, R, hQ => wp_skip (hQ _ _ _ _ _ _ h R)
  | .label _, E, H, k, h, ρ, a, w, Q, R, hQ => wp_label (hQ _ _ _ _ _ _ h R)
  | .region id ops draw, E, H, k, h, ρ, a, w, Q, R, hQ => by
    cases draw with
    | false =>
      refine wp_region ?_
      have := regS_sound (Q := Q) hΓ hdm (fun E H ρ a w hk R => hQ _ _ _ _ _ _ hk R) ops.toList 0 E H ρ a w (by simp) R h
      simpa [List.range_eq_range'] using this
    | true => exact regD_sound hm hΓ hdm (fun E H ρ a w hk R => hQ _ _ _ _ _ _ hk R) R h
  | .seq c d, E, H, k, h, ρ, a, w, Q, R, hQ => by
    refine wp_seq (code_sound hm hΓ hdm c E H _ h ρ a w _ R fun ex E' H' ρ' a' w' hk R' => ?_)
    cases ex <;> first
    | exact code_sound hm hΓ hdm d _ _ _ hk ρ' a' w' Q R' hQ
    | exact hQ _ _ _ _ _ _ hk R'
  | .cond c t e, E, H, k, h, ρ, a, w, Q, R, hQ => by
    have h : cCond c (code P Γ sz t) (code P Γ sz e) E H k := h
    unfold cCond at h
    split at h
    · rename_i b hb
      have h1 : Rep w (Mof M0 ρ H) (.v (.bool b)) (a.eval c) := (ev_ok R hb).1
      generalize hc : a.eval c = v at h1
      cases h1
      refine wp_cond hc ?_
      cases b with
      | true => exact code_sound hm hΓ hdm t _ _ _ (h.t rfl) ρ a w Q R hQ
      | false => exact code_sound hm hΓ hdm e _ _ _ (h.f rfl) ρ a w Q R hQ
    · exact h.elim
  | .block id c, E, H, k, h, ρ, a, w, Q, R, hQ => by
    refine wp_block (code_sound hm hΓ hdm c E H _ h ρ a w _ R fun ex E' H' ρ' a' w' hk R' => ?_)
    cases ex with
    | exit id' =>
      simp only at hk
      unfold Exit.inBlock
      split at hk
      · rename_i hb
        have : id' = id := by simpa using hb
        simp only [this, if_true]
        exact hQ _ _ _ _ _ _ hk R'
      · rename_i hb
        have : id' ≠ id := by rintro rfl; simp at hb
        simp only [this, if_false]
        exact hQ _ _ _ _ _ _ hk R'
    | _ => exact hQ _ _ _ _ _ _ hk R'
  | .exit id, E, H, k, h, ρ, a, w, Q, R, hQ => wp_exit (hQ _ _ _ _ _ _ h R)
  | .ret, E, H, k, h, ρ, a, w, Q, R, hQ => wp_ret (hQ _ _ _ _ _ _ h R)
  | .loop body, E, H, k, h, ρ, a, w, Q, R, hQ => h.run _ _ _ _ _ _ _ hdm R hQ
  | .scope _, E, H, k, h, ρ, a, w, Q, R, hQ => h.run _ _ _ _ _ _ _ hdm R hQ
  | .goto _, E, H, k, h, ρ, a, w, Q, R, hQ => wp_goto (hQ _ _ _ _ _ _ h R)
  | .rangeFunc .., E, H, k, h, ρ, a, w, Q, R, hQ => h.run _ _ _ _ _ _ _ hdm R hQ
  | .refuse _, _, _, _, h, _, _, _, _, _, _ => h.elim
end
end Sx
end Go.Proofs.YtgdpogdgpfjnoaaGreatDoor
