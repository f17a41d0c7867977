import Derived.Test.YtgdpogdgpfjnoaaDoorGLCTextsAI
import Derived.ScopeJumps
import Derived.StillTail
import Derived.Lib.QuietBelow
import Derived.BigQuiet
import Derived.WalkKit
import Derived.Lib.Hide
import Derived.ProofKit
import Derived.OpenShut
import Derived.Carry
import Derived.Deep.Slices
import Derived.Deep.Strs
import Derived.ChangeSame
set_option linter.all false
namespace Go.Proofs.YtgdpogdgpfjnoaaDoor
open Go Go.RowKit
namespace Sx
class BC (c : Bool) (p q : outParam Prop) : Prop where
  t : c = true ↔ p
  f : c = false ↔ q
class BL (b : Bool) : Prop where
  ok : b = b
instance : BL true := ⟨rfl⟩
instance : BL false := ⟨rfl⟩
instance bc_decide {p : Prop} [Decidable p] : BC (decide p) p (¬ p) := ⟨decide_eq_true_iff, decide_eq_false_iff_not⟩
instance bc_eq {a b : Int} : BC (a == b) (a = b) (a ≠ b) := ⟨beq_iff_eq, beq_eq_false_iff_ne⟩
instance bc_ne {a b : Int} : BC (a != b) (a ≠ b) (a = b) := ⟨bne_iff_ne, bne_eq_false_iff_eq⟩
instance bc_beq {a b : Bool} [BL a] [BL b] : BC (a == b) (a = b) (a ≠ b) := ⟨beq_iff_eq, beq_eq_false_iff_ne⟩
instance bc_bne {a b : Bool} [BL a] [BL b] : BC (a != b) (a ≠ b) (a = b) := ⟨bne_iff_ne, bne_eq_false_iff_eq⟩
instance bc_lit {b : Bool} [BL b] : BC b (b = true) (b = false) := ⟨Iff.rfl, Iff.rfl⟩
instance bc_not {c : Bool} {p q : Prop} [h : BC c p q] : BC (!c) q p := ⟨by rw [← h.f]; cases c <;> simp, by rw [← h.t]; cases c <;> simp⟩
theorem bc_t {c : Bool} {p q A B : Prop} [h : BC c p q] (e : p) (k : A) : br c A B := br_t' (h.t.2 e) k
theorem bc_f {c : Bool} {p q A B : Prop} [h : BC c p q] (e : q) (k : B) : br c A B := br_f' (h.f.2 e) k
theorem bc {c : Bool} {p q A B : Prop} [h : BC c p q] (k1 : p → A) (k2 : q → B) : br c A B := br_i (fun e => k1 (h.t.1 e)) fun e => k2 (h.f.1 e)
theorem xi {α : Sort _} {p q : α → Prop} {a : α} (h : p a) (k : q a) : ∃ a, p a ∧ q a := ⟨a, h, k⟩
theorem za {P : Program} {f : Nat} {args : List DC} {r : DV} {k : DV → Prop} (q : k r) (h : FnOK P f args r := by assumption) : ∃ r, FnOK P f args r ∧ k r := ⟨r, h, q⟩
theorem zd {P : Program} {f : Nat} {args : List DC} {r : DV} {k : DV → Prop} (q : k r) (h : FnD P f args r := by assumption) : ∃ r, FnD P f args r ∧ k r := ⟨r, h, q⟩
theorem zb {P : Program} {f : Nat} {args : List DC} {r : DV} {k : DV → Prop} (q : k r) (h : FnOK P f args r := by assumption) (e : flatV r = true := by exact rfl) : ∃ r, FnB P f args r ∧ k r := ⟨r, ⟨e, h⟩, q⟩
theorem zo {P : Program} {f : Nat} {args : List DC} {r : OwnR} {k : OwnR → Prop} (q : k r) (h : FnOwn P f args r := by assumption) : ∃ r, FnOwn P f args r ∧ k r := ⟨r, h, q⟩
theorem zm {P : Program} {f k : Nat} {l : List (List D)} {args : List DC} {l' : List (List D)} {q : List (List D) → Prop} (g : q l') (h : FnMu P f k l args l' := by assumption) : ∃ l', FnMu P f k l args l' ∧ q l' := ⟨l', h, g⟩
theorem zc {P : Program} {f k : Nat} {l : List (List D)} {args : List DC} {l' : List (List D)} {q : List (List D) → Prop} (g : q l') (h : FnCon P f k l args l' := by assumption) : ∃ l', FnCon P f k l args l' ∧ q l' := ⟨l', h, g⟩
theorem ze {P : Program} {f : Nat} {args : List DC} {cs cs' : List (List D)} {r : DV} {q : DV → List (List D) → Prop} (g : q r cs') (h : FnMem P f args cs r cs' := by assumption) : ∃ r cs', FnMem P f args cs r cs' ∧ q r cs' := ⟨r, cs', h, g⟩
theorem zl {P : Program} {f : Nat} {args : List DC} {r : DV} {k : DV → Prop} (q : k r) (h : FnOK P f args r := by assumption) (e : flaV r = true := by exact rfl) : ∃ r, FnL P f args r ∧ k r := ⟨r, ⟨e, h⟩, q⟩
theorem zp {c : Bool} {p q A B : Prop} [h : BC c p q] (k : A) (e : p := by first | omega | decide) : br c A B := bc_t e k
theorem zq {c : Bool} {p q A B : Prop} [h : BC c p q] (k : B) (e : q := by first | omega | decide) : br c A B := bc_f e k
theorem zk {P : Program} {f g : Nat} {args : List DC} {cs : List D} {q : OwnR → Prop} (k : q ⟨.tup [], 0, 0, g, [cs]⟩) (h : FnClo P f args g cs := by assumption) : ∃ r : OwnR, FnClo P f args r.k (r.l.headD []) ∧ q r := ⟨⟨.tup [], 0, 0, g, [cs]⟩, h, k⟩
theorem zg {l : List (List D)} {i n : Nat} {q : List D → Prop} {e : List D} (k : q e) (h : l[i]? = some e := by assumption) (hn : Nat.ble n e.length = true := by exact rfl) : ∃ a, (l[i]? = some a ∧ n ≤ a.length) ∧ q a := ⟨e, ⟨h, Nat.le_of_ble_eq_true hn⟩, k⟩
theorem zt {b : Bool} {A B : Prop} (h : A) (e : b = true := by assumption) : br b A B := br_t' e h
theorem zf {b : Bool} {A B : Prop} (h : B) (e : b = false := by assumption) : br b A B := br_f' e h
theorem zi {A B : Prop} (k : B) (h : A := by first | kernel_rfl | omega | (simp only [List.length_append, List.length_cons, List.length_nil, List.length_map, List.length_take, List.length_replicate]; omega) | decide) : A ∧ B := ⟨h, k⟩
section
variable {P : Program} {C M0 : Nat → Prop} {w0 w : World} {sz : Nat} {ρ : Nat → Nm} {E : Env} {H : Hp} {a : Act} {Γ : Cfg}
def dsts : List Oper → List Nat
  | [] => []
  | o :: l => match o.dst with | some d => d :: dsts l | none => dsts l
noncomputable def wrC (c : Code) : List Nat :=
  Code.rec (motive := fun _ => List Nat)
    [] (fun _ ops _ => dsts ops.toList) (fun _ _ a b => a ++ b) (fun _ _ _ a b => a ++ b) (fun _ _ a => a)
    (fun _ a => a) (fun _ _ _ _ a b => a ++ b) (fun _ => []) (fun _ a => a) (fun _ => []) (fun _ => []) [] (fun _ => []) c
def dropL {α : Type} (ws : List Nat) : List Nat → List (Nat × α) → List (Nat × α)
  | _, [] => []
  | D, (t, x) :: r => match memB t ws with
    | true => dropL ws D r
    | false => match memB t D with | true => dropL ws D r | false => (t, x) :: dropL ws (t :: D) r
def keysOf {α : Type} : List (Nat × α) → List Nat
  | [] => []
  | (t, _) :: r => t :: keysOf r
def dropS (H : Hp) : Env → Env
  | [] => []
  | (t, x) :: r => match curS H x with | true => (t, x) :: dropS H r | false => dropS H r
def stE (ws : List Nat) (m : Env) (E : Env) (H : Hp) : Env := m ++ dropS H (dropL ws (keysOf m) E)
def stH (ws : List Nat) (m : Hp) (H : Hp) : Hp := m ++ dropL ws (keysOf m) H
def stK (body : Code) (mE : Env) (mH : Hp) (E : Env) (H : Hp) (k : Env → Hp → Prop) : Prop := frcN (wrC body) fun ws => frcEnv (stE ws mE E H) fun E1 => frcHs (stH ws mH H) fun H1 => k E1 H1
theorem stK_iff (body : Code) (mE : Env) (mH : Hp) (E : Env) (H : Hp) (k : Env → Hp → Prop) : stK body mE mH E H k ↔ k (stE (wrC body) mE E H) (stH (wrC body) mH H) := by
  unfold stK; rw [frcN_iff, frcEnv_iff, frcHs_iff]
theorem loop_J (hm : P.follows .mixedOrders = true) (hΓ : ΓOK P Γ) {σ : Type} (mE : σ → Env) (mH : σ → Hp) (I : σ → Prop) (μ : σ → Nat) {body : Code} {k : Exit → Env → Hp → Prop} (s0 : σ) (i0 : I s0) (h0 : stK body (mE s0) (mH s0) E H fun E1 H1 => EntZ E H E1 H1)
    (hr : ∀ s, I s → stK body (mE s) (mH s) E H fun E1 H1 => code P Γ sz body E1 H1 (fun ex E' H' => match ex with | .normal => ∃ s', I s' ∧ (stK body (mE s') (mH s') E H fun E1 H1 => EntZ E' H' E1 H1) ∧ μ s' < μ s | ex => k ex E' H')) : LoopP P sz Γ.dm body E H k := by
  refine ⟨fun C M0 w0 ρ a w Q hdm R hQ => ?_⟩
  refine wp_loopG (fun n a w => ∃ s ρ, I s ∧ μ s = n ∧ Rel C M0 w0 sz ρ (stE (wrC body) (mE s) E H) (stH (wrC body) (mH s) H) a w) (n := μ s0) ⟨s0, _, i0, rfl, R.entZ ((stK_iff ..).1 h0)⟩ ?_
  rintro n a w ⟨s, ρ, hI, rfl, R⟩
  refine code_sound hm hΓ hdm body _ _ _ ((stK_iff ..).1 (hr s hI)) ρ a w _ R fun ex E' H' ρ' a' w' hk R' => ?_
  cases ex with
  | normal =>
    obtain ⟨s', h0, h1, h2⟩ := hk
    exact ⟨_, h2, s', _, h0, rfl, R'.entZ ((stK_iff ..).1 h1)⟩
  | _ => exact hQ _ _ _ _ _ _ hk R'
theorem wp_scopeG {c rest : Code} {Q : Exit → Act → World → Prop} (l : Nat) (I : Nat → Act → World → Prop) (hf : findLabel c l = some rest) (first : c.wp P (Exit.jump l (fun a w => ∃ n, I n a w) Q) a w)
    (pass : ∀ n a w, I n a w → rest.wp P (Exit.jump l (fun a' w' => ∃ m, m < n ∧ I m a' w') Q) a w) : (Code.scope c).wp P Q a w := by
  intro b k cs
  have hg : gotoIn l (.inScope c :: k) = some (.code rest :: .inScope c :: k) := by simp [gotoIn, hf]
  have key : ∀ n a w, I n a w → ∃ e a' w', Q e a' w' ∧ Arrives P (lone (b.at a (.code rest :: .inScope c :: k)) cs w) b k cs e a' w' := by
    intro n
    induction n using Nat.strongRecOn with
    | _ n ih =>
      intro a w hJ
      obtain ⟨e, a₁, w₁, hq, harr⟩ := pass n a w hJ b (.inScope c :: k) cs
      cases e with
      | normal => exact ⟨.normal, a₁, w₁, hq, Steps.trans harr (.one step_inScope)⟩
      | exit id => exact ⟨.exit id, a₁, w₁, hq, fun k' hk => harr k' (by simp [exitTo, hk])⟩
      | goto l' =>
        obtain ⟨rfl, m, hlt, hJ'⟩ := hq
        obtain ⟨e₂, a₂, w₂, hq₂, harr₂⟩ := ih m hlt a₁ w₁ hJ'
        exact ⟨e₂, a₂, w₂, hq₂, .of_steps (harr _ hg) harr₂⟩
      | ret => exact ⟨_, a₁, w₁, hq, harr⟩
      | panic ch => exact ⟨_, a₁, w₁, hq, harr⟩
      | outgrown => exact ⟨_, a₁, w₁, hq, harr⟩
  obtain ⟨e, a₁, w₁, hq, harr⟩ := first b (.inScope c :: k) cs
  cases e with
  | normal => exact ⟨.normal, a₁, w₁, hq, .head step_scope (Steps.trans harr (.one step_inScope))⟩
  | exit id => exact ⟨.exit id, a₁, w₁, hq, fun k' hk => .head step_scope (harr k' (by simp [exitTo, hk]))⟩
  | goto l' =>
    obtain ⟨rfl, n, hJ'⟩ := hq
    obtain ⟨e₂, a₂, w₂, hq₂, harr₂⟩ := key n a₁ w₁ hJ'
    exact ⟨e₂, a₂, w₂, hq₂, .of_steps (.head step_scope (harr _ hg)) harr₂⟩
  | ret => exact ⟨_, a₁, w₁, hq, .of_steps (.one step_scope) harr⟩
  | panic ch => exact ⟨_, a₁, w₁, hq, .of_steps (.one step_scope) harr⟩
  | outgrown => exact ⟨_, a₁, w₁, hq, .of_steps (.one step_scope) harr⟩
theorem scope_J (hm : P.follows .mixedOrders = true) (hΓ : ΓOK P Γ) (l : Nat) {σ : Type} (mE : σ → Env) (mH : σ → Hp) (I : σ → Prop) (μ : σ → Nat) {c rest : Code} {k : Exit → Env → Hp → Prop} (hl : findLabel c l = some rest)
    (h0 : code P Γ sz c E H (fun ex E' H' => match ex with | .goto l' => l' = l ∧ ∃ s', I s' ∧ (stK c (mE s') (mH s') E H fun E1 H1 => EntZ E' H' E1 H1) | ex => k ex E' H'))
    (hr : ∀ s, I s → stK c (mE s) (mH s) E H fun E1 H1 => code P Γ sz rest E1 H1 (fun ex E' H' => match ex with | .goto l' => l' = l ∧ ∃ s', I s' ∧ (stK c (mE s') (mH s') E H fun E1 H1 => EntZ E' H' E1 H1) ∧ μ s' < μ s | ex => k ex E' H')) : NodeP P sz Γ.dm (.scope c) E H k := by
  refine ⟨fun C M0 w0 ρ a w Q hdm R hQ => ?_⟩
  refine wp_scopeG l (fun n a w => ∃ s ρ, I s ∧ μ s = n ∧ Rel C M0 w0 sz ρ (stE (wrC c) (mE s) E H) (stH (wrC c) (mH s) H) a w) hl ?_ ?_
  · refine code_sound hm hΓ hdm c _ _ _ h0 ρ a w _ R fun ex E' H' ρ' a' w' hk R' => ?_
    cases ex with
    | goto l' =>
      obtain ⟨e, s', h0, h1⟩ := hk
      exact ⟨e, _, s', _, h0, rfl, R'.entZ ((stK_iff ..).1 h1)⟩
    | _ => exact hQ _ _ _ _ _ _ hk R'
  · rintro n a w ⟨s, ρ, hI, rfl, R⟩
    refine code_sound hm hΓ hdm rest _ _ _ ((stK_iff ..).1 (hr s hI)) ρ a w _ R fun ex E' H' ρ' a' w' hk R' => ?_
    cases ex with
    | goto l' =>
      obtain ⟨e, s', h0, h1, h2⟩ := hk
      exact ⟨e, _, h2, s', _, h0, rfl, R'.entZ ((stK_iff ..).1 h1)⟩
    | _ => exact hQ _ _ _ _ _ _ hk R'
theorem zE0 : entZE H E [] := trivial
theorem zE1 {t : Nat} {x : SV} {r : Env} (h1 : lookZ H E t = some x) (h2 : entZE H E r) : entZE H E ((t, x) :: r) := ⟨h1, h2⟩
theorem zH0 : entZH H [] := trivial
theorem zH1 {n : Nat} {b : Blk} {r : Hp} (h1 : lookZH H n = some b) (h2 : entZH H r) : entZH H ((n, b) :: r) := ⟨h1, h2⟩
theorem ent_i {k : IntKind} {a b : Int} (h : a = b) : (some (sV (.int k a)) : Option SV) = some (sV (.int k b)) := by rw [h]
theorem ent_b {a b : Bool} (h : a = b) : (some (sV (.bool a)) : Option SV) = some (sV (.bool b)) := by rw [h]
theorem zent {E' : Env} {H' : Hp} (h1 : entZE H E E' := by repeat' (first | with_reducible exact zE0 | with_reducible refine zE1 ?_ ?_ | rfl | assumption | (refine ent_i ?_; (first | omega | (rw [IntWalk.i64_in _ (by omega)]; omega) | (simp; done))) | (refine ent_b ?_; (first | omega | (rw [IntWalk.i64_in _ (by omega)]; omega) | (simp; done))))) (h2 : entZH H H' := by repeat' (first | with_reducible exact zH0 | with_reducible refine zH1 ?_ ?_ | rfl | assumption)) (h3 : clB E' H' = true := by rfl) : EntZ E H E' H' := ⟨h1, h2, h3⟩
end
theorem zw {p : Prop} (h : p := by ((repeat' ((conv => whnf); first | (with_reducible first | refine br_t ?_ | refine br_f ?_ | refine za ?_ | refine zg ?_ | refine zo ?_ | refine zb ?_ | refine zm ?_ | refine zc ?_ | refine ze ?_ | refine zk ?_) | ((with_reducible refine bc_t ?_ ?_); (first | omega | decide)) | ((with_reducible refine bc_f ?_ ?_); (first | omega | decide)) | (with_reducible first | refine bc (fun h => ?_) (fun h => ?_) | refine zt ?_ | refine zf ?_ | refine br_i (fun h => ?_) (fun h => ?_)) | refine zg ?_ | refine zi ?_ | refine zb ?_ | refine zl ?_)); (all_goals (conv => whnf)); (all_goals rfl))) : p := h
end Sx
end Go.Proofs.YtgdpogdgpfjnoaaDoor

namespace Go.Proofs.YtgdpogdgpfjnoaaDoor
open Go Go.RowKit Go.Sort
section
variable {P : Program} {ops : Array Oper} {md : Region.Mode} {C : World → Prop}
end
end Go.Proofs.YtgdpogdgpfjnoaaDoor

namespace Go.Proofs.YtgdpogdgpfjnoaaDoor
open Go Go.RowKit Go.Sort
section
variable {P : Program} {ops : Array Oper} {md : Region.Mode} {C : World → Prop}
def Kept (w w' : World) : Prop := Below w.heap.size w w'
def sUpon (P : Program) (w : World) (v : Value) : Result Next → Prop
  | .ok (.value u) w' => w' = w ∧ u = v
  | .ok .skip w' => w' = w ∧ v = undef
  | .ok (.enter f args) w' => w' = w ∧ Calls P f args w (fun e w'' => e = .returned v ∧ Kept w w'')
  | _ => False
def sAt (P : Program) (o : Oper) (a : Act) (w : World) (v : Value) : Prop := sUpon P w v ((execOp a.eval o).run P w)
def sq (P : Program) (o : Oper) (a : Act) (C : World → Prop) (next : Act → Prop) : Prop := ∃ v, (∀ w, C w → sAt P o a w v) ∧ next (a.put o.dst v)
attribute [go_sem] sq sAt sUpon
def sOp (P : Program) (ops : Array Oper) (C : World → Prop) (i : Nat) (K : Act → Prop) (a : Act) : Prop :=
  match ops[i]? with
  | none => K a
  | some o => if Region.wanted o (yielded ops a.tmps) then sq P o a C K else K (a.put o.dst undef)
theorem sq_mono {o : Oper} {a : Act} {K K' : Act → Prop} (h : ∀ a, K a → K' a) (hh : sq P o a C K) : sq P o a C K' :=
  let ⟨v, h1, h2⟩ := hh
  ⟨v, h1, h _ h2⟩
theorem sOp_mono {i : Nat} {a : Act} {K K' : Act → Prop} (h : ∀ a, K a → K' a) (hh : sOp P ops C i K a) : sOp P ops C i K' a := by
  unfold sOp at *
  split
  · exact h _ (by simpa [*] using hh)
  · rename_i o ho
    simp only [ho] at hh
    split
    · rename_i hw; simp only [hw, if_true] at hh; exact sq_mono h hh
    · rename_i hw; simp only [hw] at hh; exact h _ hh
def YieldsS (P : Program) (ops : Array Oper) (C : World → Prop) (o : Oper) (v : Value) (a : Act) : Prop :=
  (Region.wanted o (yielded ops a.tmps) = true ∧ ∀ w, C w → sAt P o a w v) ∨
  (Region.wanted o (yielded ops a.tmps) = false ∧ v = undef)
theorem YieldsS.sOp {i : Nat} {o : Oper} {v : Value} {a : Act} (hi : ops[i]? = some o) (hy : YieldsS P ops C o v a) {K : Act → Prop} (h : K (a.put o.dst v)) : sOp P ops C i K a := by
  unfold Proofs.YtgdpogdgpfjnoaaDoor.sOp
  simp only [hi]
  rcases hy with ⟨hw, hv⟩ | ⟨hw, rfl⟩
  · simp only [hw, if_true]; exact ⟨v, hv, h⟩
  · simp only [hw, Bool.false_eq_true, if_false]; exact h
theorem YieldsS.of_same {o : Oper} {v : Value} {a a' : Act} (hy : YieldsS P ops C o v a) (he : execOp a'.eval o = execOp a.eval o)
    (hw : Region.wanted o (yielded ops a'.tmps) = Region.wanted o (yielded ops a.tmps)) : YieldsS P ops C o v a' := by
  unfold YieldsS sAt at *
  rw [he, hw]
  exact hy
theorem yieldsS_of_sOp {i : Nat} {o : Oper} {a : Act} {K : Act → Prop} (hi : ops[i]? = some o) (h : sOp P ops C i K a) : ∃ v, YieldsS P ops C o v a ∧ K (a.put o.dst v) := by
  unfold sOp at h
  simp only [hi] at h
  by_cases hw : Region.wanted o (yielded ops a.tmps) = true
  · simp only [hw, if_true] at h
    obtain ⟨v, h1, h2⟩ := h
    exact ⟨v, .inl ⟨hw, h1⟩, h2⟩
  · simp only [hw] at h
    exact ⟨undef, .inr ⟨by simpa using hw, rfl⟩, h⟩
theorem sOp_over {i d : Nat} {v : Value} {a : Act} {K : Act → Prop} (hsel : ∀ (j : Nat) (o : Oper) cs b, ops[j]? = some o → o.op ≠ .select cs b)
    (hread : ∀ o, ops[i]? = some o → d ∉ o.looksAt ops ∧ o.dst ≠ some d) (h : sOp P ops C i K a) :
    sOp P ops C i (fun a'' => ∃ a', a'' = a'.put (some d) v ∧ K a') (a.put (some d) v) := by
  unfold sOp at h
  split at h
  · rename_i ho; unfold sOp; simp only [ho]; exact ⟨_, rfl, h⟩
  · rename_i o ho
    obtain ⟨h1, h2⟩ := hread o ho
    have hl : ∀ e, some d = some e → e ∉ o.looksAt ops := fun e he => by injection he with he; subst he; exact h1
    have h' : sOp P ops C i K a := by unfold sOp; simp only [ho]; exact h
    obtain ⟨u, hy, hK⟩ := yieldsS_of_sOp ho h'
    have hy' : YieldsS P ops C o u (a.put (some d) v) := hy.of_same (execOp_put o (fun cs b => hsel i o cs b ho) a (some d) v hl) (wanted_put o a (some d) v hl)
    exact hy'.sOp ho ⟨_, (Act.put_comm a v u (fun e he => by injection he with he; subst he; exact h2)), hK⟩
end
end Go.Proofs.YtgdpogdgpfjnoaaDoor

namespace Go.Proofs.YtgdpogdgpfjnoaaDoor
open Go Go.RowKit Go.Sort
section
variable {P : Program} {ops : Array Oper} {md : Region.Mode} {C : World → Prop}
def Unseen (P : Program) (ops : Array Oper) (C : World → Prop) (good : Nat → Prop) (ov : Act → Act) : Prop :=
  ∀ (i : Nat) (K : Act → Prop) (a : Act), good i → sOp P ops C i K a → sOp P ops C i (fun a'' => ∃ a', a'' = ov a' ∧ K a') (ov a)
theorem Unseen.put {good : Nat → Prop} {ov : Act → Act} {d : Nat} {v : Value} (hsel : ∀ (j : Nat) (o : Oper) cs b, ops[j]? = some o → o.op ≠ .select cs b)
    (hov : Unseen P ops C good ov) (hread : ∀ i o, good i → ops[i]? = some o → d ∉ o.looksAt ops ∧ o.dst ≠ some d) :
    Unseen P ops C good (fun a => (ov a).put (some d) v) := fun i K a hg h =>
  sOp_mono (fun _ h' => by
    obtain ⟨a', rfl, a2, rfl, hK⟩ := h'
    exact ⟨a2, rfl, hK⟩) (sOp_over (v := v) hsel (fun o ho => hread i o hg ho) (hov i K a hg h))
structure Makes (P : Program) (ops : Array Oper) (m d : Nat) (zs : Array Value) (T : TypeId) (o : Oper) : Prop where
  at_ : ops[m]? = some o
  dst : o.dst = some d
  guard : o.guard = none
  after : o.after = #[]
  run : ∀ (a : Act) (w : World), (execOp a.eval o).run P w = .ok (.value (.pointer (some ⟨w.heap.size, 0, none⟩))) (w.alloc (.cells zs T))
theorem Makes.ready {m d : Nat} {zs : Array Value} {T : TypeId} {o : Oper} (h : Makes P ops m d zs T o) {listed : Array Bool} (hm : listed.getD m true = false) : m ∈ Region.ready md ops listed :=
  mem_ready.2 ⟨hm, o, h.at_, fun e he => by rw [h.after] at he; simp at he⟩
theorem Makes.wp {m d : Nat} {zs : Array Value} {T : TypeId} {o : Oper} (h : Makes P ops m d zs T o) {a : Act} {w : World} {K : Act → World → Prop} {Q' : Exit → Act → World → Prop}
    (hK : K (a.put (some d) (.pointer (some ⟨w.heap.size, 0, none⟩))) (w.alloc (.cells zs T))) : wpOp P ops Q' m K a w := by
  have hwant : Region.wanted o (yielded ops a.tmps) = true := by simp [Region.wanted, h.guard]
  unfold wpOp
  simp only [h.at_, hwant, if_true]
  refine .inl ?_
  unfold Oper.wp
  rw [h.run a w]
  simp only [Oper.upon, h.dst]
  exact hK
end
end Go.Proofs.YtgdpogdgpfjnoaaDoor

namespace Go.Proofs.YtgdpogdgpfjnoaaDoor
open Go.RowKit Go.Sort
attribute [go_sem] Nat.add_assoc Nat.add_pos_iff_pos_or_pos
@[go_sem] theorem lt_lit (a b c : Nat) (h : a < b) : a < b + c := Nat.lt_of_lt_of_le h (Nat.le_add_right _ _)
@[go_sem] theorem size_redrawn (W : World) (d : Nat) : (redrawn W d).heap.size = W.heap.size := rfl
@[go_sem] theorem cell_reg (W : World) (d : Nat) (os : Array Obj) (b o : Nat) (h : b < W.heap.size) : (grow (redrawn W d) os).cell? ⟨b, o, none⟩ = W.cell? ⟨b, o, none⟩ :=
  (below_regrown W d os).cell (p := ⟨b, o, none⟩) h
@[go_sem] theorem frozen_reg (W : World) (d : Nat) (os : Array Obj) (b o : Nat) (h : b < W.heap.size) : (grow (redrawn W d) os).frozen? ⟨b, o, none⟩ = W.frozen? ⟨b, o, none⟩ :=
  (below_regrown W d os).frozen (p := ⟨b, o, none⟩) h
@[go_sem] theorem set_reg (W : World) (d : Nat) (os : Array Obj) (b o : Nat) (v : Value) (h : b < W.heap.size) :
    (grow (redrawn W d) os).setCell ⟨b, o, none⟩ v = grow (redrawn (W.setCell ⟨b, o, none⟩ v) d) os := by
  unfold World.setCell grow redrawn
  simp only
  congr 1
  exact modify_append_left _ _ _ _ h
theorem below_drewN {B : Nat} {a w : World} (h : Below B a w) (n : Nat) : Below B a (w.drewN n) := ⟨h.os, h.tape, h.output, h.size, h.block⟩
theorem below_reg {a W : World} (h : Below a.heap.size a W) (d : Nat) (os : Array Obj) : Below a.heap.size a (grow (redrawn W d) os) :=
  h.trans ((below_regrown W d os).mono h.size)
theorem below_alloc {a W : World} (h : Below a.heap.size a W) (o : Obj) : Below a.heap.size a (W.alloc o) := h.alloc h.size o
theorem cmono {P : Program} {f : FuncId} {args : Array Value} {w : World} {v : Value} {R : Ending → World → Prop}
    (k : ∀ e w', e = .returned v ∧ Below w.heap.size w w' → R e w') (h : Calls P f args w fun e w' => e = .returned v ∧ Below w.heap.size w w') : Calls P f args w R := h.mono k
theorem ret_int {k : IntKind} {a b : Int} (h : a = b) : Ending.returned (.int k a) = .returned (.int k b) := by rw [h]
end Go.Proofs.YtgdpogdgpfjnoaaDoor

namespace Go.Proofs.YtgdpogdgpfjnoaaDoor
open Go Go.RowKit Go.ChangeShapes Go.WideShapes Go.ChangeAt
theorem trodAll_stays {H : Type} {enc : TypeId × Value → H} {P : Program} (hl : laidOutB P = true) {W W' : World} (hb : Below W.heap.size W W') :
    ∀ (ts : List TypeId) (vs : List Value) (ds : List (DataW H)) (p : List MemPlace), (ts.all fun t => P.readableRec t && decide (t < P.types.size)) = true →
      DataW.TrodAll enc P W 0 (fun _ => true) true ts vs ds p → (∀ x ∈ p, x.block < W.heap.size) → DataW.TrodAll enc P W' 0 (fun b => decide (b < W.heap.size)) true ts vs ds p
  | [], [], [], p, _, h, _ => h
  | t :: ts, v :: vs, d :: ds, p, hr, h, hlt => by
    obtain ⟨p1, q1, h1, h2, rfl⟩ := h
    simp only [List.all_cons, Bool.and_eq_true, decide_eq_true_eq] at hr
    obtain ⟨⟨hr1, hr2⟩, hr3⟩ := hr
    exact ⟨p1, q1, Below.trod hl hr1 hr2 h1 hb (fun x hx => hlt x (List.mem_append_left _ hx)), trodAll_stays hl hb ts vs ds q1 hr3 h2 (fun x hx => hlt x (List.mem_append_right _ hx)), rfl⟩
  | [], [], _ :: _, _, _, h, _ => h.elim
  | [], _ :: _, _, _, _, h, _ => h.elim
  | _ :: _, [], _, _, _, h, _ => h.elim
  | _ :: _, _ :: _, [], _, _, h, _ => h.elim
theorem law_post {H : Type} {enc : TypeId × Value → H} {P : Program} {f : Func} {s : ChangeSpec} {W W' : World} {args : Array Value} {ds gs : List (DataW H)} {before : List MemPlace} {tb : TypeId}
    (hl : laidOutB P = true) (hr : (f.params.toList.all fun t => P.readableRec t && decide (t < P.types.size)) = true) (hres : f.resultTypes = #[tb]) (htb : P.underlying tb = some .bool) (hv : s.vars = [])
    (hW : DataW.Whole enc P f.params.toList s.vars false W args.toList ds gs before)
    (hs : (s.fn H ds).results = [.lit (.bool true)] ∧ (s.fn H ds).args = ds ∧ (s.fn H ds).vars = []) (hb : Below W.heap.size W W') :
    s.post enc P f false true false false W args (.bool true) W' := by
  have hlt : ∀ p ∈ before, p.block < W.heap.size := fun p hp => hW.lt p hp
  have hW' := hW
  obtain ⟨p, q, hA, hV, rfl, hfz, hnd⟩ := hW
  rw [hv] at hV
  cases gs with
  | cons g gs => exact hV.elim
  | nil =>
    have hq : q = [] := hV
    subst hq
    obtain ⟨s1, s2, s3⟩ := hs
    refine ⟨ds, [], p ++ [], [], p, [], hW', ?_, ?_, ?_, World.keptBut_mono (fun x hx => ⟨hx, .inr (.inl (by simpa using hx))⟩) (hb.frame (· ∈ p ++ [])), fun h => by cases h⟩
    · rw [hres, List.append_nil, s1]
      exact trodAll_cons_mk (shut_bool htb true) trodAll_mk0
    · rw [List.append_nil, s2]
      exact trodAll_stays hl hb _ _ _ _ hr hA (fun x hx => hlt x (by simpa using hx))
    · rw [hv, List.append_nil, s3]
      rfl
end Go.Proofs.YtgdpogdgpfjnoaaDoor

namespace Go.Proofs.YtgdpogdgpfjnoaaDoor
open Go Go.RowKit Go.ChangeShapes Go.WideShapes Go.Deep Go.Proofs.YtgdpogdgpfjnoaaDoor.Sx
namespace Sx
inductive Sh where
  | int (k : IntKind)
  | bool
  | str
  | sl (ek : Nat) (e : Sh)
  | st (fs : Sh)
  | f0
  | fc (n : Nat) (h t : Sh)
mutual
def TyS (P : Program) : Sh → Nat → Prop
  | .int k, t => P.underlying t = some (.int k)
  | .bool, t => P.underlying t = some .bool
  | .str, t => P.underlying t = some .string
  | .sl ek e, t => 0 < ek ∧ ∃ u, P.underlying t = some (.slice u) ∧ P.cellsOf u = ek ∧ TyS P e u
  | .st fs, t => ∃ F : Array Field, P.underlying t = some (.struct F) ∧ TyF P (P.cellsOf t) fs F.toList 0
  | .f0, _ => False
  | .fc _ _ _, _ => False
def TyF (P : Program) (tot : Nat) : Sh → List Field → Nat → Prop
  | .f0, [], off => off = tot
  | .fc n h t, f :: fs, off => f.offset = off ∧ P.cellsOf f.type = n ∧ TyS P h f.type ∧ TyF P tot t fs (off + n)
  | _, _, _ => False
end
mutual
def Fits : Sh → List D → Prop
  | .int k, ds => ∃ n, ds = [.v (.int k n)]
  | .bool, ds => ∃ b, ds = [.v (.bool b)]
  | .str, ds => ∃ s : ByteArray, s.size ≤ maxLen ∧ ds = [.v (.string s)]
  | .sl ek e, ds => ∃ l : List (List D), ds = [.list ek l] ∧ ∀ x ∈ l, Fits e x
  | .st fs, ds => FitF fs ds
  | .f0, _ => False
  | .fc _ _ _, _ => False
def FitF : Sh → List D → Prop
  | .f0, ds => ds = []
  | .fc _ h t, ds => ∃ a b, ds = a ++ b ∧ Fits h a ∧ FitF t b
  | _, _ => False
end
section
variable {H : Type} {enc : TypeId × Value → H} {P : Program} {w : World} {base : Nat} {spare : Nat → Bool} {held : Bool}
theorem lit_wf {k : IntKind} {n : Int} (h : (Lit.int k n).wf = true) : inK k n := by
  rw [inK_iff]
  simpa [Lit.wf] using h
theorem TyF_le : ∀ (s : Sh) (F : List Field) (off tot : Nat), TyF P tot s F off → off ≤ tot
  | .f0, [], off, tot, h => Nat.le_of_eq h
  | .fc n h t, f :: fs, off, tot, hs => by
    have := TyF_le t fs (off + n) tot hs.2.2.2
    omega
  | .f0, _ :: _, _, _, hs => hs.elim
  | .fc _ _ _, [], _, _, hs => hs.elim
  | .int _, [], _, _, hs => hs.elim
  | .int _, _ :: _, _, _, hs => hs.elim
  | .bool, [], _, _, hs => hs.elim
  | .bool, _ :: _, _, _, hs => hs.elim
  | .str, [], _, _, hs => hs.elim
  | .str, _ :: _, _, _, hs => hs.elim
  | .sl _ _, [], _, _, hs => hs.elim
  | .sl _ _, _ :: _, _, _, hs => hs.elim
  | .st _, [], _, _, hs => hs.elim
  | .st _, _ :: _, _, _, hs => hs.elim
theorem one_cell {d : D} {v : Value} {M : Nat → Prop} (ho : v.cells = #[v]) (h : DsR w M [d] v.cells.toList) : DCR w M (.one d) v := by
  rw [ho] at h
  exact h.1
mutual
theorem trod_fits : ∀ (s : Sh) (t fuel : Nat) (cs : List Value) (x : DataW H × List MemPlace), TyS P s t → DataW.trod enc P w base spare held fuel t cs = some x → ∃ ds, DsR w (fun _ => False) ds cs ∧ Fits s ds
  | .int k, t, fuel, cs, x, hs, h => by
    obtain ⟨n, rfl, _, hw⟩ := DataW.trod_int hs h
    exact ⟨[.v (.int k n)], ⟨.v _ rfl (lit_wf hw), trivial⟩, n, rfl⟩
  | .bool, t, fuel, cs, x, hs, h => by
    obtain ⟨b, rfl, _⟩ := DataW.trod_bool hs h
    exact ⟨[.v (.bool b)], ⟨.v _ rfl trivial, trivial⟩, b, rfl⟩
  | .str, t, fuel, cs, x, hs, h => by
    obtain ⟨s, rfl, _, hl⟩ := DataW.trod_string hs h
    exact ⟨[.v (.string s)], ⟨.v _ rfl trivial, trivial⟩, s, hl, rfl⟩
  | .sl ek e, t, fuel, cs, x, hs, h => by
    obtain ⟨hpos, u, hu, hk, hE⟩ := hs
    rcases open_slice hu h with ⟨rfl, _⟩ | ⟨a, len, cap, m, n, D', Pl, rfl, hb, hl, hm, hmm, _, hi⟩
    · exact ⟨[.list ek []], ⟨.nil ek none 0 (by omega) (fun _ => rfl), trivial⟩, [], rfl, by simp⟩
    · have hcap : cap ≤ 9223372036854775807 := by simp only [maxLen] at hm; exact hm
      rcases Nat.eq_zero_or_pos len with h0 | h0
      · subst h0
        exact ⟨[.list ek []], ⟨.nil ek (some a) cap hcap (fun h => by cases h), trivial⟩, [], rfl, by simp⟩
      have key : ∀ i, ∃ p : List Value × List D, i < len → p.1.length = ek ∧ (∀ j (hj : j < p.1.length), w.cell? ((a.add (i * ek)).add j) = some p.1[j]) ∧ DsR w (fun _ => False) p.2 p.1 ∧ Fits e p.2 := fun i => by
        by_cases hi' : i < len
        · obtain ⟨cs', hc, ht⟩ := hi i (by rw [hmm]; split <;> omega)
          obtain ⟨ds, h1, h2⟩ := trod_fits e u n cs' _ hE ht
          rw [hk] at hc
          obtain ⟨_, hcl, hat⟩ := World.cells?_some hc
          exact ⟨(cs', ds), fun _ => ⟨hcl, fun j hj => by rw [hat j (by simp only at hj; omega), List.getElem?_eq_getElem hj], h1, h2⟩⟩
        · exact ⟨([], []), fun h => absurd h hi'⟩
      obtain ⟨g, hg⟩ := Classical.axiomOfChoice key
      have hspot : a.spot = none := by
        obtain ⟨h1, h2, _⟩ := hg 0 h0
        have := h2 0 (by omega)
        rw [Nat.zero_mul] at this
        have e0 : (a.add 0).add 0 = a := rfl
        rw [e0] at this
        unfold World.cell? at this
        cases hs : a.spot with
        | none => rfl
        | some x => rw [hs] at this; split at this <;> simp at this
      obtain ⟨b, off, spot⟩ := a
      simp only at hspot
      subst hspot
      have hbl : b < w.heap.size := by
        obtain ⟨h1, h2, _⟩ := hg 0 h0
        have := h2 0 (by omega)
        rw [add_plain, add_plain] at this
        unfold World.cell? at this
        rcases Nat.lt_or_ge b w.heap.size with h | h
        · exact h
        · simp [Array.getElem?_eq_none h] at this
      have hll : ((List.range len).map fun i => (g i).2).length = len := by simp
      refine ⟨[.list ek ((List.range len).map fun i => (g i).2)], ⟨?_, trivial⟩, _, rfl, fun x hx => ?_⟩
      · conv => arg 4; rw [show len = ((List.range len).map fun i => (g i).2).length from hll.symm]
        refine .list (fun i j => (g i).1.getD j undef) (by rw [hll]; exact hl) hcap (fun h => h) hbl (fun x hx => ?_) (fun i j hi' hj => ?_) (fun i j hi' hj => ?_)
        · simp only [List.mem_map, List.mem_range] at hx
          obtain ⟨i, hi', rfl⟩ := hx
          obtain ⟨h1, _, h3, _⟩ := hg i hi'
          rw [← h3.length, h1]
        · rw [hll] at hi'
          obtain ⟨h1, h2, _⟩ := hg i hi'
          have := h2 j (by omega)
          rw [add_plain, add_plain] at this
          rw [this]
          simp [List.getElem?_eq_getElem (show j < (g i).1.length by omega)]
        · rw [hll] at hi'
          obtain ⟨h1, _, h3, _⟩ := hg i hi'
          have e1 : ((List.range len).map fun i => (g i).2)[i] = (g i).2 := by simp
          have hj' : j < (g i).2.length := by rw [← e1]; exact hj
          obtain ⟨v, hv, hr⟩ := h3.get j _ (List.getElem?_eq_getElem hj')
          have e2 : (g i).1.getD j undef = v := by rw [List.getD_eq_getElem?_getD, hv]; rfl
          rw [e2]
          have e3 : ((List.range len).map fun i => (g i).2)[i][j] = (g i).2[j] := by simp
          rw [e3]; exact hr
      · simp only [List.mem_map, List.mem_range] at hx
        obtain ⟨i, hi', rfl⟩ := hx
        exact (hg i hi').2.2.2
  | .st fs, t, fuel, cs, x, hs, h => by
    obtain ⟨F, hF, hT⟩ := hs
    obtain ⟨ys, n, hn, hy, hlen, hyl, hf⟩ := DataW.trod_struct hF h
    obtain ⟨ds, h1, h2⟩ := trodF_fits fs n F.toList 0 cs (P.cellsOf t) hT (by omega) (Nat.zero_le _) (fun j f hj => by
      have hj' : F[j]? = some f := by simpa using hj
      have := hf j f hj'
      have hjl : j < F.size := (Array.getElem?_eq_some_iff.1 hj').1
      exact ⟨ys[j]'(by omega), by rw [this, List.getElem?_eq_getElem (by omega)]⟩)
    exact ⟨ds, by simpa using h1, h2⟩
  | .f0, _, _, _, _, hs, _ => hs.elim
  | .fc _ _ _, _, _, _, _, hs, _ => hs.elim
theorem trodF_fits : ∀ (s : Sh) (n : Nat) (F : List Field) (off : Nat) (cs : List Value) (tot : Nat), TyF P tot s F off → cs.length = tot → off ≤ tot →
    (∀ (j : Nat) (f : Field), F[j]? = some f → ∃ y : DataW H × List MemPlace, DataW.trod enc P w base spare held n f.type ((cs.drop f.offset).take (P.cellsOf f.type)) = some y) → ∃ ds, DsR w (fun _ => False) ds (cs.drop off) ∧ FitF s ds
  | .f0, n, [], off, cs, tot, hs, hl, _, _ => by
    have hs : off = tot := hs
    exact ⟨[], by rw [List.drop_eq_nil_of_le (by omega)]; trivial, rfl⟩
  | .fc m h t, n, f :: fs, off, cs, tot, hs, hl, ho, hf => by
    obtain ⟨h1, h2, h3, h4⟩ := hs
    obtain ⟨y, hy⟩ := hf 0 f rfl
    obtain ⟨a, ha, hfa⟩ := trod_fits h f.type n _ y h3 hy
    rw [h1, h2] at ha
    have hmle : off + m ≤ tot := TyF_le t fs (off + m) tot h4
    obtain ⟨b, hb, hfb⟩ := trodF_fits t n fs (off + m) cs tot h4 hl hmle (fun j g hj => hf (j + 1) g (by simpa using hj))
    refine ⟨a ++ b, ?_, a, b, rfl, hfa, hfb⟩
    have e : cs.drop off = (cs.drop off).take m ++ cs.drop (off + m) := by
      rw [← List.drop_drop, List.take_append_drop]
    rw [e]
    exact ha.append hb
  | .f0, _, _ :: _, _, _, _, hs, _, _, _ => hs.elim
  | .fc _ _ _, _, [], _, _, _, hs, _, _, _ => hs.elim
  | .int _, _, [], _, _, _, hs, _, _, _ => hs.elim
  | .int _, _, _ :: _, _, _, _, hs, _, _, _ => hs.elim
  | .bool, _, [], _, _, _, hs, _, _, _ => hs.elim
  | .bool, _, _ :: _, _, _, _, hs, _, _, _ => hs.elim
  | .str, _, [], _, _, _, hs, _, _, _ => hs.elim
  | .str, _, _ :: _, _, _, _, hs, _, _, _ => hs.elim
  | .sl _ _, _, [], _, _, _, hs, _, _, _ => hs.elim
  | .sl _ _, _, _ :: _, _, _, _, hs, _, _, _ => hs.elim
  | .st _, _, [], _, _, _, hs, _, _, _ => hs.elim
  | .st _, _, _ :: _, _, _, _, hs, _, _, _ => hs.elim
end
theorem exists_map {α β : Type} {f : α → β} : ∀ {l : List β}, (∀ x ∈ l, ∃ y, x = f y) → ∃ l' : List α, l = l'.map f
  | [], _ => ⟨[], rfl⟩
  | x :: l, h => by
    obtain ⟨y, rfl⟩ := h x (List.mem_cons_self ..)
    obtain ⟨l', rfl⟩ := exists_map (l := l) fun z hz => h z (List.mem_cons_of_mem _ hz)
    exact ⟨y :: l', rfl⟩
def FitC : Sh → DC → Prop
  | .st fs, c => ∃ ds, c = .agg ds ∧ FitF fs ds
  | s, c => ∃ d, c = .one d ∧ Fits s [d]
theorem arg_data {r : Reach} {b0 t : Nat} {s : Sh} {v : Value} {d : DataW H} {p : List MemPlace} (hs : TyS P s t) (hv : Value.okWide P w r b0 t v) (h : DataW.Trod enc P w base spare held t v d p) : ∃ c, DCR w (fun _ => False) c v ∧ FitC s c := by
  obtain ⟨fuel, h⟩ := h
  obtain ⟨ds, h1, h2⟩ := trod_fits s t fuel _ _ hs h
  cases s with
  | st fs =>
    obtain ⟨F, hF, _⟩ := hs
    obtain ⟨cs, rfl, _⟩ := okWide_struct hF hv
    exact ⟨.agg ds, ⟨cs.toList, by simp, by simpa [Value.cells] using h1⟩, ds, rfl, h2⟩
  | int k =>
    obtain ⟨m, rfl⟩ := okWide_int hs hv
    obtain ⟨n, rfl⟩ := h2
    exact ⟨.one _, one_cell rfl h1, _, rfl, n, rfl⟩
  | bool =>
    obtain ⟨m, rfl⟩ := okWide_bool hs hv
    obtain ⟨n, rfl⟩ := h2
    exact ⟨.one _, one_cell rfl h1, _, rfl, n, rfl⟩
  | str =>
    obtain ⟨m, rfl⟩ := okWide_string hs hv
    obtain ⟨n, hn, rfl⟩ := h2
    exact ⟨.one _, one_cell rfl h1, _, rfl, n, hn, rfl⟩
  | sl ek e =>
    obtain ⟨_, u, hu, _⟩ := hs
    obtain ⟨x, y, z, rfl⟩ := okWide_slice hu hv
    obtain ⟨l, rfl, h2⟩ := h2
    exact ⟨.one _, one_cell rfl h1, _, rfl, l, rfl, h2⟩
  | f0 => exact hs.elim
  | fc n h t => exact hs.elim
end
def kEq : IntKind → IntKind → Bool := fun a b => decide (a = b)
mutual
def tyB (P : Program) : Sh → Nat → Bool
  | .int k, t => match P.underlying t with | some (.int k') => kEq k k' | _ => false
  | .bool, t => match P.underlying t with | some .bool => true | _ => false
  | .str, t => match P.underlying t with | some .string => true | _ => false
  | .sl ek e, t => Nat.ble 1 ek && match P.underlying t with | some (.slice u) => Nat.beq (P.cellsOf u) ek && tyB P e u | _ => false
  | .st fs, t => match P.underlying t with | some (.struct F) => tyFB P (P.cellsOf t) fs F.toList 0 | _ => false
  | .f0, _ => false
  | .fc _ _ _, _ => false
def tyFB (P : Program) (tot : Nat) : Sh → List Field → Nat → Bool
  | .f0, [], off => Nat.beq off tot
  | .fc n h t, f :: fs, off => Nat.beq f.offset off && (Nat.beq (P.cellsOf f.type) n && (tyB P h f.type && tyFB P tot t fs (off + n)))
  | _, _, _ => false
end
mutual
theorem tyB_ok {P : Program} : ∀ {s : Sh} {t : Nat}, tyB P s t = true → TyS P s t
  | .int k, t, h => by
    unfold tyB at h
    split at h
    · rename_i k' h1
      rw [TyS, h1, of_decide_eq_true h]
    · cases h
  | .bool, t, h => by
    unfold tyB at h
    split at h
    · rename_i h1; exact h1
    · cases h
  | .str, t, h => by
    unfold tyB at h
    split at h
    · rename_i h1; exact h1
    · cases h
  | .sl ek e, t, h => by
    unfold tyB at h
    rw [Bool.and_eq_true] at h
    obtain ⟨h1, h2⟩ := h
    split at h2
    · rename_i u h3
      rw [Bool.and_eq_true] at h2
      exact ⟨Nat.le_of_ble_eq_true h1, u, h3, Nat.eq_of_beq_eq_true h2.1, tyB_ok h2.2⟩
    · cases h2
  | .st fs, t, h => by
    unfold tyB at h
    split at h
    · rename_i F h1
      exact ⟨F, h1, tyFB_ok h⟩
    · cases h
  | .f0, t, h => by unfold tyB at h; cases h
  | .fc _ _ _, t, h => by unfold tyB at h; cases h
theorem tyFB_ok {P : Program} {tot : Nat} : ∀ {s : Sh} {F : List Field} {off : Nat}, tyFB P tot s F off = true → TyF P tot s F off
  | .f0, [], off, h => by unfold tyFB at h; exact Nat.eq_of_beq_eq_true h
  | .fc n h t, f :: fs, off, hs => by
    unfold tyFB at hs
    simp only [Bool.and_eq_true] at hs
    exact ⟨Nat.eq_of_beq_eq_true hs.1, Nat.eq_of_beq_eq_true hs.2.1, tyB_ok hs.2.2.1, tyFB_ok hs.2.2.2⟩
  | .f0, _ :: _, _, h => by unfold tyFB at h; cases h
  | .fc _ _ _, [], _, h => by unfold tyFB at h; cases h
  | .int _, _, _, h => by unfold tyFB at h; cases h
  | .bool, _, _, h => by unfold tyFB at h; cases h
  | .str, _, _, h => by unfold tyFB at h; cases h
  | .sl _ _, _, _, h => by unfold tyFB at h; cases h
  | .st _, _, _, h => by unfold tyFB at h; cases h
end
theorem law_of_fn {P : Program} {f : Nat} {args : List DC} {x : Value} (hcall : ∀ (vs : Array Value) (w : World), (callFunc f vs).run P w = .ok (.enter f vs) w) (h : FnOK P f args (.c (.one (.v x)))) {w : World} {vs : List Value} (hg : Gd w) (hvs : DCsR w (fun _ => False) args vs) :
    Calls P f vs.toArray w fun e w' => e = .returned x ∧ Below w.heap.size w w' := by
  rcases h w (fun _ => False) vs ⟨fun _ h => h.elim, hg, fun _ h => h.elim⟩ hvs with ⟨g, hg, hc⟩ | ⟨u, hg, _⟩
  · have : g = f := by
      rw [hcall] at hg
      injection hg with h1
      injection h1 with h1
      exact h1.symm
    subst this
    refine hc.mono ?_
    rintro e w' ⟨u, rfl, hu, hb⟩
    have hu : Rep w' _ (.v x) u := hu
    cases hu
    exact ⟨rfl, hb⟩
  · rw [hcall] at hg
    injection hg with h1
    cases h1
def shInt : Sh := .int .i64
def shRatio : Sh := .st (.fc 1 shInt (.fc 1 shInt .f0))
def shPoint : Sh := .st (.fc 1 shInt (.fc 1 shInt (.fc 1 shInt .f0)))
def shField : Sh := .st (.fc 1 (.sl 3 shPoint) .f0)
theorem fits_ratio {ds : List D} (h : FitF (.fc 1 shInt (.fc 1 shInt .f0)) ds) : ∃ n m : Int, ds = [.v (.int .i64 n), .v (.int .i64 m)] := by
  obtain ⟨_, _, rfl, ⟨n, rfl⟩, _, _, rfl, ⟨m, rfl⟩, rfl⟩ := h
  exact ⟨n, m, rfl⟩
end Sx
end Go.Proofs.YtgdpogdgpfjnoaaDoor
