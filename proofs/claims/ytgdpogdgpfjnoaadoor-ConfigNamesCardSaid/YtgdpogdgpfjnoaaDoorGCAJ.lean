import Derived.Test.YtgdpogdgpfjnoaaDoorGCAI
import Derived.WalkKit
import Derived.Lib.Hide
import Derived.BigQuiet
import Derived.Lib.QuietBelow
import Derived.ProofKit
import Derived.OpenShut
import Derived.Carry
import Derived.Deep.Slices
import Derived.Deep.Strs
import Derived.ChangeSame
import Derived.ChangeKeysEq
import Derived.Test.YtgdpogdgpfjnoaaDoorProg
import Derived.Test.YtgdpogdgpfjnoaaDoorChecked
set_option linter.all false
namespace Go.Proofs.YtgdpogdgpfjnoaaDoor
open Go Go.RowKit Go.Sort
section
variable {P : Program} {ops : Array Oper} {md : Region.Mode} {C : World → Prop}
def Kept (w w' : World) : Prop := Below w.heap.size w w'
def sUpon (P : Program) (w : World) (v : Value) : Result Next → Prop
  | .ok (.value u) w' => w' = w ∧ u = v
  | .ok .skip w' => w' = w ∧ v = undef
  | .ok (.enter f args) w' => w' = w ∧ Calls P f args w (fun e w'' => e = .returned v ∧ Kept w w'')
  | _ => False
def sAt (P : Program) (o : Oper) (a : Act) (w : World) (v : Value) : Prop := sUpon P w v ((execOp a.eval o).run P w)
def sq (P : Program) (o : Oper) (a : Act) (C : World → Prop) (next : Act → Prop) : Prop := ∃ v, (∀ w, C w → sAt P o a w v) ∧ next (a.put o.dst v)
attribute [go_sem] sq sAt sUpon
def sOp (P : Program) (ops : Array Oper) (C : World → Prop) (i : Nat) (K : Act → Prop) (a : Act) : Prop :=
  match ops[i]? with
  | none => K a
  | some o => if Region.wanted o (yielded ops a.tmps) then sq P o a C K else K (a.put o.dst undef)
theorem sq_mono {o : Oper} {a : Act} {K K' : Act → Prop} (h : ∀ a, K a → K' a) (hh : sq P o a C K) : sq P o a C K' :=
  let ⟨v, h1, h2⟩ := hh
  ⟨v, h1, h _ h2⟩
theorem sOp_mono {i : Nat} {a : Act} {K K' : Act → Prop} (h : ∀ a, K a → K' a) (hh : sOp P ops C i K a) : sOp P ops C i K' a := by
  unfold sOp at *
  split
  · exact h _ (by simpa [*] using hh)
  · rename_i o ho
    simp only [ho] at hh
    split
    · rename_i hw; simp only [hw, if_true] at hh; exact sq_mono h hh
    · rename_i hw; simp only [hw] at hh; exact h _ hh
def YieldsS (P : Program) (ops : Array Oper) (C : World → Prop) (o : Oper) (v : Value) (a : Act) : Prop :=
  (Region.wanted o (yielded ops a.tmps) = true ∧ ∀ w, C w → sAt P o a w v) ∨
  (Region.wanted o (yielded ops a.tmps) = false ∧ v = undef)
theorem YieldsS.sOp {i : Nat} {o : Oper} {v : Value} {a : Act} (hi : ops[i]? = some o) (hy : YieldsS P ops C o v a) {K : Act → Prop} (h : K (a.put o.dst v)) : sOp P ops C i K a := by
  unfold Proofs.YtgdpogdgpfjnoaaDoor.sOp
  simp only [hi]
  rcases hy with ⟨hw, hv⟩ | ⟨hw, rfl⟩
  · simp only [hw, if_true]; exact ⟨v, hv, h⟩
  · simp only [hw, Bool.false_eq_true, if_false]; exact h
theorem YieldsS.of_same {o : Oper} {v : Value} {a a' : Act} (hy : YieldsS P ops C o v a) (he : execOp a'.eval o = execOp a.eval o)
    (hw : Region.wanted o (yielded ops a'.tmps) = Region.wanted o (yielded ops a.tmps)) : YieldsS P ops C o v a' := by
  unfold YieldsS sAt at *
  rw [he, hw]
  exact hy
theorem yieldsS_of_sOp {i : Nat} {o : Oper} {a : Act} {K : Act → Prop} (hi : ops[i]? = some o) (h : sOp P ops C i K a) : ∃ v, YieldsS P ops C o v a ∧ K (a.put o.dst v) := by
  unfold sOp at h
  simp only [hi] at h
  by_cases hw : Region.wanted o (yielded ops a.tmps) = true
  · simp only [hw, if_true] at h
    obtain ⟨v, h1, h2⟩ := h
    exact ⟨v, .inl ⟨hw, h1⟩, h2⟩
  · simp only [hw] at h
    exact ⟨undef, .inr ⟨by simpa using hw, rfl⟩, h⟩
theorem sOp_over {i d : Nat} {v : Value} {a : Act} {K : Act → Prop} (hsel : ∀ (j : Nat) (o : Oper) cs b, ops[j]? = some o → o.op ≠ .select cs b)
    (hread : ∀ o, ops[i]? = some o → d ∉ o.looksAt ops ∧ o.dst ≠ some d) (h : sOp P ops C i K a) :
    sOp P ops C i (fun a'' => ∃ a', a'' = a'.put (some d) v ∧ K a') (a.put (some d) v) := by
  unfold sOp at h
  split at h
  · rename_i ho; unfold sOp; simp only [ho]; exact ⟨_, rfl, h⟩
  · rename_i o ho
    obtain ⟨h1, h2⟩ := hread o ho
    have hl : ∀ e, some d = some e → e ∉ o.looksAt ops := fun e he => by injection he with he; subst he; exact h1
    have h' : sOp P ops C i K a := by unfold sOp; simp only [ho]; exact h
    obtain ⟨u, hy, hK⟩ := yieldsS_of_sOp ho h'
    have hy' : YieldsS P ops C o u (a.put (some d) v) := hy.of_same (execOp_put o (fun cs b => hsel i o cs b ho) a (some d) v hl) (wanted_put o a (some d) v hl)
    exact hy'.sOp ho ⟨_, (Act.put_comm a v u (fun e he => by injection he with he; subst he; exact h2)), hK⟩
end
end Go.Proofs.YtgdpogdgpfjnoaaDoor

namespace Go.Proofs.YtgdpogdgpfjnoaaDoor
open Go Go.RowKit Go.Sort
section
variable {P : Program} {ops : Array Oper} {md : Region.Mode} {C : World → Prop}
def Unseen (P : Program) (ops : Array Oper) (C : World → Prop) (good : Nat → Prop) (ov : Act → Act) : Prop :=
  ∀ (i : Nat) (K : Act → Prop) (a : Act), good i → sOp P ops C i K a → sOp P ops C i (fun a'' => ∃ a', a'' = ov a' ∧ K a') (ov a)
theorem Unseen.put {good : Nat → Prop} {ov : Act → Act} {d : Nat} {v : Value} (hsel : ∀ (j : Nat) (o : Oper) cs b, ops[j]? = some o → o.op ≠ .select cs b)
    (hov : Unseen P ops C good ov) (hread : ∀ i o, good i → ops[i]? = some o → d ∉ o.looksAt ops ∧ o.dst ≠ some d) :
    Unseen P ops C good (fun a => (ov a).put (some d) v) := fun i K a hg h =>
  sOp_mono (fun _ h' => by
    obtain ⟨a', rfl, a2, rfl, hK⟩ := h'
    exact ⟨a2, rfl, hK⟩) (sOp_over (v := v) hsel (fun o ho => hread i o hg ho) (hov i K a hg h))
structure Makes (P : Program) (ops : Array Oper) (m d : Nat) (zs : Array Value) (T : TypeId) (o : Oper) : Prop where
  at_ : ops[m]? = some o
  dst : o.dst = some d
  guard : o.guard = none
  after : o.after = #[]
  run : ∀ (a : Act) (w : World), (execOp a.eval o).run P w = .ok (.value (.pointer (some ⟨w.heap.size, 0, none⟩))) (w.alloc (.cells zs T))
theorem Makes.ready {m d : Nat} {zs : Array Value} {T : TypeId} {o : Oper} (h : Makes P ops m d zs T o) {listed : Array Bool} (hm : listed.getD m true = false) : m ∈ Region.ready md ops listed :=
  mem_ready.2 ⟨hm, o, h.at_, fun e he => by rw [h.after] at he; simp at he⟩
theorem Makes.wp {m d : Nat} {zs : Array Value} {T : TypeId} {o : Oper} (h : Makes P ops m d zs T o) {a : Act} {w : World} {K : Act → World → Prop} {Q' : Exit → Act → World → Prop}
    (hK : K (a.put (some d) (.pointer (some ⟨w.heap.size, 0, none⟩))) (w.alloc (.cells zs T))) : wpOp P ops Q' m K a w := by
  have hwant : Region.wanted o (yielded ops a.tmps) = true := by simp [Region.wanted, h.guard]
  unfold wpOp
  simp only [h.at_, hwant, if_true]
  refine .inl ?_
  unfold Oper.wp
  rw [h.run a w]
  simp only [Oper.upon, h.dst]
  exact hK
end
end Go.Proofs.YtgdpogdgpfjnoaaDoor

namespace Go.Proofs.YtgdpogdgpfjnoaaDoor
open Go.RowKit Go.Sort
attribute [go_sem] Nat.add_assoc Nat.add_pos_iff_pos_or_pos
@[go_sem] theorem lt_lit (a b c : Nat) (h : a < b) : a < b + c := Nat.lt_of_lt_of_le h (Nat.le_add_right _ _)
@[go_sem] theorem size_redrawn (W : World) (d : Nat) : (redrawn W d).heap.size = W.heap.size := rfl
@[go_sem] theorem cell_reg (W : World) (d : Nat) (os : Array Obj) (b o : Nat) (h : b < W.heap.size) : (grow (redrawn W d) os).cell? ⟨b, o, none⟩ = W.cell? ⟨b, o, none⟩ :=
  (below_regrown W d os).cell (p := ⟨b, o, none⟩) h
@[go_sem] theorem frozen_reg (W : World) (d : Nat) (os : Array Obj) (b o : Nat) (h : b < W.heap.size) : (grow (redrawn W d) os).frozen? ⟨b, o, none⟩ = W.frozen? ⟨b, o, none⟩ :=
  (below_regrown W d os).frozen (p := ⟨b, o, none⟩) h
@[go_sem] theorem set_reg (W : World) (d : Nat) (os : Array Obj) (b o : Nat) (v : Value) (h : b < W.heap.size) :
    (grow (redrawn W d) os).setCell ⟨b, o, none⟩ v = grow (redrawn (W.setCell ⟨b, o, none⟩ v) d) os := by
  unfold World.setCell grow redrawn
  simp only
  congr 1
  exact modify_append_left _ _ _ _ h
theorem below_drewN {B : Nat} {a w : World} (h : Below B a w) (n : Nat) : Below B a (w.drewN n) := ⟨h.os, h.tape, h.output, h.size, h.block⟩
theorem below_reg {a W : World} (h : Below a.heap.size a W) (d : Nat) (os : Array Obj) : Below a.heap.size a (grow (redrawn W d) os) :=
  h.trans ((below_regrown W d os).mono h.size)
theorem below_alloc {a W : World} (h : Below a.heap.size a W) (o : Obj) : Below a.heap.size a (W.alloc o) := h.alloc h.size o
theorem cmono {P : Program} {f : FuncId} {args : Array Value} {w : World} {v : Value} {R : Ending → World → Prop}
    (k : ∀ e w', e = .returned v ∧ Below w.heap.size w w' → R e w') (h : Calls P f args w fun e w' => e = .returned v ∧ Below w.heap.size w w') : Calls P f args w R := h.mono k
theorem ret_int {k : IntKind} {a b : Int} (h : a = b) : Ending.returned (.int k a) = .returned (.int k b) := by rw [h]
end Go.Proofs.YtgdpogdgpfjnoaaDoor

namespace Go.Proofs.YtgdpogdgpfjnoaaDoor
open Go Go.RowKit Go.ChangeShapes Go.WideShapes Go.ChangeAt
theorem trodAll_stays {H : Type} {enc : TypeId × Value → H} {P : Program} (hl : laidOutB P = true) {W W' : World} (hb : Below W.heap.size W W') :
    ∀ (ts : List TypeId) (vs : List Value) (ds : List (DataW H)) (p : List MemPlace), (ts.all fun t => P.readableRec t && decide (t < P.types.size)) = true →
      DataW.TrodAll enc P W 0 (fun _ => true) true ts vs ds p → (∀ x ∈ p, x.block < W.heap.size) → DataW.TrodAll enc P W' 0 (fun b => decide (b < W.heap.size)) true ts vs ds p
  | [], [], [], p, _, h, _ => h
  | t :: ts, v :: vs, d :: ds, p, hr, h, hlt => by
    obtain ⟨p1, q1, h1, h2, rfl⟩ := h
    simp only [List.all_cons, Bool.and_eq_true, decide_eq_true_eq] at hr
    obtain ⟨⟨hr1, hr2⟩, hr3⟩ := hr
    exact ⟨p1, q1, Below.trod hl hr1 hr2 h1 hb (fun x hx => hlt x (List.mem_append_left _ hx)), trodAll_stays hl hb ts vs ds q1 hr3 h2 (fun x hx => hlt x (List.mem_append_right _ hx)), rfl⟩
  | [], [], _ :: _, _, _, h, _ => h.elim
  | [], _ :: _, _, _, _, h, _ => h.elim
  | _ :: _, [], _, _, _, h, _ => h.elim
  | _ :: _, _ :: _, [], _, _, h, _ => h.elim
theorem law_post {H : Type} {enc : TypeId × Value → H} {P : Program} {f : Func} {s : ChangeSpec} {W W' : World} {args : Array Value} {ds gs : List (DataW H)} {before : List MemPlace} {tb : TypeId}
    (hl : laidOutB P = true) (hr : (f.params.toList.all fun t => P.readableRec t && decide (t < P.types.size)) = true) (hres : f.resultTypes = #[tb]) (htb : P.underlying tb = some .bool) (hv : s.vars = [])
    (hW : DataW.Whole enc P f.params.toList s.vars false W args.toList ds gs before)
    (hs : (s.fn H ds).results = [.lit (.bool true)] ∧ (s.fn H ds).args = ds ∧ (s.fn H ds).vars = []) (hb : Below W.heap.size W W') :
    s.post enc P f false true false false W args (.bool true) W' := by
  have hlt : ∀ p ∈ before, p.block < W.heap.size := fun p hp => hW.lt p hp
  have hW' := hW
  obtain ⟨p, q, hA, hV, rfl, hfz, hnd⟩ := hW
  rw [hv] at hV
  cases gs with
  | cons g gs => exact hV.elim
  | nil =>
    have hq : q = [] := hV
    subst hq
    obtain ⟨s1, s2, s3⟩ := hs
    refine ⟨ds, [], p ++ [], [], p, [], hW', ?_, ?_, ?_, World.keptBut_mono (fun x hx => ⟨hx, .inr (.inl (by simpa using hx))⟩) (hb.frame (· ∈ p ++ [])), fun h => by cases h⟩
    · rw [hres, List.append_nil, s1]
      exact trodAll_cons_mk (shut_bool htb true) trodAll_mk0
    · rw [List.append_nil, s2]
      exact trodAll_stays hl hb _ _ _ _ hr hA (fun x hx => hlt x (by simpa using hx))
    · rw [hv, List.append_nil, s3]
      rfl
end Go.Proofs.YtgdpogdgpfjnoaaDoor

namespace Go.Proofs.YtgdpogdgpfjnoaaDoor
open Go Go.RowKit Go.ChangeShapes Go.WideShapes Go.Deep Go.Proofs.YtgdpogdgpfjnoaaDoor.Sx
namespace Sx
inductive Sh where
  | int (k : IntKind)
  | bool
  | str
  | sl (ek : Nat) (e : Sh)
  | st (fs : Sh)
  | f0
  | fc (n : Nat) (h t : Sh)
mutual
def TyS (P : Program) : Sh → Nat → Prop
  | .int k, t => P.underlying t = some (.int k)
  | .bool, t => P.underlying t = some .bool
  | .str, t => P.underlying t = some .string
  | .sl ek e, t => 0 < ek ∧ ∃ u, P.underlying t = some (.slice u) ∧ P.cellsOf u = ek ∧ TyS P e u
  | .st fs, t => ∃ F : Array Field, P.underlying t = some (.struct F) ∧ TyF P (P.cellsOf t) fs F.toList 0
  | .f0, _ => False
  | .fc _ _ _, _ => False
def TyF (P : Program) (tot : Nat) : Sh → List Field → Nat → Prop
  | .f0, [], off => off = tot
  | .fc n h t, f :: fs, off => f.offset = off ∧ P.cellsOf f.type = n ∧ TyS P h f.type ∧ TyF P tot t fs (off + n)
  | _, _, _ => False
end
mutual
def Fits : Sh → List D → Prop
  | .int k, ds => ∃ n, ds = [.v (.int k n)]
  | .bool, ds => ∃ b, ds = [.v (.bool b)]
  | .str, ds => ∃ s : ByteArray, s.size ≤ maxLen ∧ ds = [.v (.string s)]
  | .sl ek e, ds => ∃ l : List (List D), ds = [.list ek l] ∧ ∀ x ∈ l, Fits e x
  | .st fs, ds => FitF fs ds
  | .f0, _ => False
  | .fc _ _ _, _ => False
def FitF : Sh → List D → Prop
  | .f0, ds => ds = []
  | .fc _ h t, ds => ∃ a b, ds = a ++ b ∧ Fits h a ∧ FitF t b
  | _, _ => False
end
section
variable {H : Type} {enc : TypeId × Value → H} {P : Program} {w : World} {base : Nat} {spare : Nat → Bool} {held : Bool}
theorem lit_wf {k : IntKind} {n : Int} (h : (Lit.int k n).wf = true) : inK k n := by
  rw [inK_iff]
  simpa [Lit.wf] using h
theorem TyF_le : ∀ (s : Sh) (F : List Field) (off tot : Nat), TyF P tot s F off → off ≤ tot
  | .f0, [], off, tot, h => Nat.le_of_eq h
  | .fc n h t, f :: fs, off, tot, hs => by
    have := TyF_le t fs (off + n) tot hs.2.2.2
    omega
  | .f0, _ :: _, _, _, hs => hs.elim
  | .fc _ _ _, [], _, _, hs => hs.elim
  | .int _, [], _, _, hs => hs.elim
  | .int _, _ :: _, _, _, hs => hs.elim
  | .bool, [], _, _, hs => hs.elim
  | .bool, _ :: _, _, _, hs => hs.elim
  | .str, [], _, _, hs => hs.elim
  | .str, _ :: _, _, _, hs => hs.elim
  | .sl _ _, [], _, _, hs => hs.elim
  | .sl _ _, _ :: _, _, _, hs => hs.elim
  | .st _, [], _, _, hs => hs.elim
  | .st _, _ :: _, _, _, hs => hs.elim
theorem one_cell {d : D} {v : Value} {M : Nat → Prop} (ho : v.cells = #[v]) (h : DsR w M [d] v.cells.toList) : DCR w M (.one d) v := by
  rw [ho] at h
  exact h.1
mutual
theorem trod_fits : ∀ (s : Sh) (t fuel : Nat) (cs : List Value) (x : DataW H × List MemPlace), TyS P s t → DataW.trod enc P w base spare held fuel t cs = some x → ∃ ds, DsR w (fun _ => False) ds cs ∧ Fits s ds
  | .int k, t, fuel, cs, x, hs, h => by
    obtain ⟨n, rfl, _, hw⟩ := DataW.trod_int hs h
    exact ⟨[.v (.int k n)], ⟨.v _ rfl (lit_wf hw), trivial⟩, n, rfl⟩
  | .bool, t, fuel, cs, x, hs, h => by
    obtain ⟨b, rfl, _⟩ := DataW.trod_bool hs h
    exact ⟨[.v (.bool b)], ⟨.v _ rfl trivial, trivial⟩, b, rfl⟩
  | .str, t, fuel, cs, x, hs, h => by
    obtain ⟨s, rfl, _, hl⟩ := DataW.trod_string hs h
    exact ⟨[.v (.string s)], ⟨.v _ rfl trivial, trivial⟩, s, hl, rfl⟩
  | .sl ek e, t, fuel, cs, x, hs, h => by
    obtain ⟨hpos, u, hu, hk, hE⟩ := hs
    rcases open_slice hu h with ⟨rfl, _⟩ | ⟨a, len, cap, m, n, D', Pl, rfl, hb, hl, hm, hmm, _, hi⟩
    · exact ⟨[.list ek []], ⟨.nil ek none 0 (by omega) (fun _ => rfl), trivial⟩, [], rfl, by simp⟩
    · have hcap : cap ≤ 9223372036854775807 := by simp only [maxLen] at hm; exact hm
      rcases Nat.eq_zero_or_pos len with h0 | h0
      · subst h0
        exact ⟨[.list ek []], ⟨.nil ek (some a) cap hcap (fun h => by cases h), trivial⟩, [], rfl, by simp⟩
      have key : ∀ i, ∃ p : List Value × List D, i < len → p.1.length = ek ∧ (∀ j (hj : j < p.1.length), w.cell? ((a.add (i * ek)).add j) = some p.1[j]) ∧ DsR w (fun _ => False) p.2 p.1 ∧ Fits e p.2 := fun i => by
        by_cases hi' : i < len
        · obtain ⟨cs', hc, ht⟩ := hi i (by rw [hmm]; split <;> omega)
          obtain ⟨ds, h1, h2⟩ := trod_fits e u n cs' _ hE ht
          rw [hk] at hc
          obtain ⟨_, hcl, hat⟩ := World.cells?_some hc
          exact ⟨(cs', ds), fun _ => ⟨hcl, fun j hj => by rw [hat j (by simp only at hj; omega), List.getElem?_eq_getElem hj], h1, h2⟩⟩
        · exact ⟨([], []), fun h => absurd h hi'⟩
      obtain ⟨g, hg⟩ := Classical.axiomOfChoice key
      have hspot : a.spot = none := by
        obtain ⟨h1, h2, _⟩ := hg 0 h0
        have := h2 0 (by omega)
        rw [Nat.zero_mul] at this
        have e0 : (a.add 0).add 0 = a := rfl
        rw [e0] at this
        unfold World.cell? at this
        cases hs : a.spot with
        | none => rfl
        | some x => rw [hs] at this; split at this <;> simp at this
      obtain ⟨b, off, spot⟩ := a
      simp only at hspot
      subst hspot
      have hbl : b < w.heap.size := by
        obtain ⟨h1, h2, _⟩ := hg 0 h0
        have := h2 0 (by omega)
        rw [add_plain, add_plain] at this
        unfold World.cell? at this
        rcases Nat.lt_or_ge b w.heap.size with h | h
        · exact h
        · simp [Array.getElem?_eq_none h] at this
      have hll : ((List.range len).map fun i => (g i).2).length = len := by simp
      refine ⟨[.list ek ((List.range len).map fun i => (g i).2)], ⟨?_, trivial⟩, _, rfl, fun x hx => ?_⟩
      · conv => arg 4; rw [show len = ((List.range len).map fun i => (g i).2).length from hll.symm]
        refine .list (fun i j => (g i).1.getD j undef) (by rw [hll]; exact hl) hcap (fun h => h) hbl (fun x hx => ?_) (fun i j hi' hj => ?_) (fun i j hi' hj => ?_)
        · simp only [List.mem_map, List.mem_range] at hx
          obtain ⟨i, hi', rfl⟩ := hx
          obtain ⟨h1, _, h3, _⟩ := hg i hi'
          rw [← h3.length, h1]
        · rw [hll] at hi'
          obtain ⟨h1, h2, _⟩ := hg i hi'
          have := h2 j (by omega)
          rw [add_plain, add_plain] at this
          rw [this]
          simp [List.getElem?_eq_getElem (show j < (g i).1.length by omega)]
        · rw [hll] at hi'
          obtain ⟨h1, _, h3, _⟩ := hg i hi'
          have e1 : ((List.range len).map fun i => (g i).2)[i] = (g i).2 := by simp
          have hj' : j < (g i).2.length := by rw [← e1]; exact hj
          obtain ⟨v, hv, hr⟩ := h3.get j _ (List.getElem?_eq_getElem hj')
          have e2 : (g i).1.getD j undef = v := by rw [List.getD_eq_getElem?_getD, hv]; rfl
          rw [e2]
          have e3 : ((List.range len).map fun i => (g i).2)[i][j] = (g i).2[j] := by simp
          rw [e3]; exact hr
      · simp only [List.mem_map, List.mem_range] at hx
        obtain ⟨i, hi', rfl⟩ := hx
        exact (hg i hi').2.2.2
  | .st fs, t, fuel, cs, x, hs, h => by
    obtain ⟨F, hF, hT⟩ := hs
    obtain ⟨ys, n, hn, hy, hlen, hyl, hf⟩ := DataW.trod_struct hF h
    obtain ⟨ds, h1, h2⟩ := trodF_fits fs n F.toList 0 cs (P.cellsOf t) hT (by omega) (Nat.zero_le _) (fun j f hj => by
      have hj' : F[j]? = some f := by simpa using hj
      have := hf j f hj'
      have hjl : j < F.size := (Array.getElem?_eq_some_iff.1 hj').1
      exact ⟨ys[j]'(by omega), by rw [this, List.getElem?_eq_getElem (by omega)]⟩)
    exact ⟨ds, by simpa using h1, h2⟩
  | .f0, _, _, _, _, hs, _ => hs.elim
  | .fc _ _ _, _, _, _, _, hs, _ => hs.elim
theorem trodF_fits : ∀ (s : Sh) (n : Nat) (F : List Field) (off : Nat) (cs : List Value) (tot : Nat), TyF P tot s F off → cs.length = tot → off ≤ tot →
    (∀ (j : Nat) (f : Field), F[j]? = some f → ∃ y : DataW H × List MemPlace, DataW.trod enc P w base spare held n f.type ((cs.drop f.offset).take (P.cellsOf f.type)) = some y) → ∃ ds, DsR w (fun _ => False) ds (cs.drop off) ∧ FitF s ds
  | .f0, n, [], off, cs, tot, hs, hl, _, _ => by
    have hs : off = tot := hs
    exact ⟨[], by rw [List.drop_eq_nil_of_le (by omega)]; trivial, rfl⟩
  | .fc m h t, n, f :: fs, off, cs, tot, hs, hl, ho, hf => by
    obtain ⟨h1, h2, h3, h4⟩ := hs
    obtain ⟨y, hy⟩ := hf 0 f rfl
    obtain ⟨a, ha, hfa⟩ := trod_fits h f.type n _ y h3 hy
    rw [h1, h2] at ha
    have hmle : off + m ≤ tot := TyF_le t fs (off + m) tot h4
    obtain ⟨b, hb, hfb⟩ := trodF_fits t n fs (off + m) cs tot h4 hl hmle (fun j g hj => hf (j + 1) g (by simpa using hj))
    refine ⟨a ++ b, ?_, a, b, rfl, hfa, hfb⟩
    have e : cs.drop off = (cs.drop off).take m ++ cs.drop (off + m) := by
      rw [← List.drop_drop, List.take_append_drop]
    rw [e]
    exact ha.append hb
  | .f0, _, _ :: _, _, _, _, hs, _, _, _ => hs.elim
  | .fc _ _ _, _, [], _, _, _, hs, _, _, _ => hs.elim
  | .int _, _, [], _, _, _, hs, _, _, _ => hs.elim
  | .int _, _, _ :: _, _, _, _, hs, _, _, _ => hs.elim
  | .bool, _, [], _, _, _, hs, _, _, _ => hs.elim
  | .bool, _, _ :: _, _, _, _, hs, _, _, _ => hs.elim
  | .str, _, [], _, _, _, hs, _, _, _ => hs.elim
  | .str, _, _ :: _, _, _, _, hs, _, _, _ => hs.elim
  | .sl _ _, _, [], _, _, _, hs, _, _, _ => hs.elim
  | .sl _ _, _, _ :: _, _, _, _, hs, _, _, _ => hs.elim
  | .st _, _, [], _, _, _, hs, _, _, _ => hs.elim
  | .st _, _, _ :: _, _, _, _, hs, _, _, _ => hs.elim
end
theorem exists_map {α β : Type} {f : α → β} : ∀ {l : List β}, (∀ x ∈ l, ∃ y, x = f y) → ∃ l' : List α, l = l'.map f
  | [], _ => ⟨[], rfl⟩
  | x :: l, h => by
    obtain ⟨y, rfl⟩ := h x (List.mem_cons_self ..)
    obtain ⟨l', rfl⟩ := exists_map (l := l) fun z hz => h z (List.mem_cons_of_mem _ hz)
    exact ⟨y :: l', rfl⟩
def FitC : Sh → DC → Prop
  | .st fs, c => ∃ ds, c = .agg ds ∧ FitF fs ds
  | s, c => ∃ d, c = .one d ∧ Fits s [d]
theorem arg_data {r : Reach} {b0 t : Nat} {s : Sh} {v : Value} {d : DataW H} {p : List MemPlace} (hs : TyS P s t) (hv : Value.okWide P w r b0 t v) (h : DataW.Trod enc P w base spare held t v d p) : ∃ c, DCR w (fun _ => False) c v ∧ FitC s c := by
  obtain ⟨fuel, h⟩ := h
  obtain ⟨ds, h1, h2⟩ := trod_fits s t fuel _ _ hs h
  cases s with
  | st fs =>
    obtain ⟨F, hF, _⟩ := hs
    obtain ⟨cs, rfl, _⟩ := okWide_struct hF hv
    exact ⟨.agg ds, ⟨cs.toList, by simp, by simpa [Value.cells] using h1⟩, ds, rfl, h2⟩
  | int k =>
    obtain ⟨m, rfl⟩ := okWide_int hs hv
    obtain ⟨n, rfl⟩ := h2
    exact ⟨.one _, one_cell rfl h1, _, rfl, n, rfl⟩
  | bool =>
    obtain ⟨m, rfl⟩ := okWide_bool hs hv
    obtain ⟨n, rfl⟩ := h2
    exact ⟨.one _, one_cell rfl h1, _, rfl, n, rfl⟩
  | str =>
    obtain ⟨m, rfl⟩ := okWide_string hs hv
    obtain ⟨n, hn, rfl⟩ := h2
    exact ⟨.one _, one_cell rfl h1, _, rfl, n, hn, rfl⟩
  | sl ek e =>
    obtain ⟨_, u, hu, _⟩ := hs
    obtain ⟨x, y, z, rfl⟩ := okWide_slice hu hv
    obtain ⟨l, rfl, h2⟩ := h2
    exact ⟨.one _, one_cell rfl h1, _, rfl, l, rfl, h2⟩
  | f0 => exact hs.elim
  | fc n h t => exact hs.elim
end
def kEq : IntKind → IntKind → Bool := fun a b => decide (a = b)
mutual
def tyB (P : Program) : Sh → Nat → Bool
  | .int k, t => match P.underlying t with | some (.int k') => kEq k k' | _ => false
  | .bool, t => match P.underlying t with | some .bool => true | _ => false
  | .str, t => match P.underlying t with | some .string => true | _ => false
  | .sl ek e, t => Nat.ble 1 ek && match P.underlying t with | some (.slice u) => Nat.beq (P.cellsOf u) ek && tyB P e u | _ => false
  | .st fs, t => match P.underlying t with | some (.struct F) => tyFB P (P.cellsOf t) fs F.toList 0 | _ => false
  | .f0, _ => false
  | .fc _ _ _, _ => false
def tyFB (P : Program) (tot : Nat) : Sh → List Field → Nat → Bool
  | .f0, [], off => Nat.beq off tot
  | .fc n h t, f :: fs, off => Nat.beq f.offset off && (Nat.beq (P.cellsOf f.type) n && (tyB P h f.type && tyFB P tot t fs (off + n)))
  | _, _, _ => false
end
mutual
theorem tyB_ok {P : Program} : ∀ {s : Sh} {t : Nat}, tyB P s t = true → TyS P s t
  | .int k, t, h => by
    unfold tyB at h
    split at h
    · rename_i k' h1
      rw [TyS, h1, of_decide_eq_true h]
    · cases h
  | .bool, t, h => by
    unfold tyB at h
    split at h
    · rename_i h1; exact h1
    · cases h
  | .str, t, h => by
    unfold tyB at h
    split at h
    · rename_i h1; exact h1
    · cases h
  | .sl ek e, t, h => by
    unfold tyB at h
    rw [Bool.and_eq_true] at h
    obtain ⟨h1, h2⟩ := h
    split at h2
    · rename_i u h3
      rw [Bool.and_eq_true] at h2
      exact ⟨Nat.le_of_ble_eq_true h1, u, h3, Nat.eq_of_beq_eq_true h2.1, tyB_ok h2.2⟩
    · cases h2
  | .st fs, t, h => by
    unfold tyB at h
    split at h
    · rename_i F h1
      exact ⟨F, h1, tyFB_ok h⟩
    · cases h
  | .f0, t, h => by unfold tyB at h; cases h
  | .fc _ _ _, t, h => by unfold tyB at h; cases h
theorem tyFB_ok {P : Program} {tot : Nat} : ∀ {s : Sh} {F : List Field} {off : Nat}, tyFB P tot s F off = true → TyF P tot s F off
  | .f0, [], off, h => by unfold tyFB at h; exact Nat.eq_of_beq_eq_true h
  | .fc n h t, f :: fs, off, hs => by
    unfold tyFB at hs
    simp only [Bool.and_eq_true] at hs
    exact ⟨Nat.eq_of_beq_eq_true hs.1, Nat.eq_of_beq_eq_true hs.2.1, tyB_ok hs.2.2.1, tyFB_ok hs.2.2.2⟩
  | .f0, _ :: _, _, h => by unfold tyFB at h; cases h
  | .fc _ _ _, [], _, h => by unfold tyFB at h; cases h
  | .int _, _, _, h => by unfold tyFB at h; cases h
  | .bool, _, _, h => by unfold tyFB at h; cases h
  | .str, _, _, h => by unfold tyFB at h; cases h
  | .sl _ _, _, _, h => by unfold tyFB at h; cases h
  | .st _, _, _, h => by unfold tyFB at h; cases h
end
theorem law_of_fn {P : Program} {f : Nat} {args : List DC} {x : Value} (hcall : ∀ (vs : Array Value) (w : World), (callFunc f vs).run P w = .ok (.enter f vs) w) (h : FnOK P f args (.c (.one (.v x)))) {w : World} {vs : List Value} (hg : Gd w) (hvs : DCsR w (fun _ => False) args vs) :
    Calls P f vs.toArray w fun e w' => e = .returned x ∧ Below w.heap.size w w' := by
  rcases h w (fun _ => False) vs ⟨fun _ h => h.elim, hg, fun _ h => h.elim⟩ hvs with ⟨g, hg, hc⟩ | ⟨u, hg, _⟩
  · have : g = f := by
      rw [hcall] at hg
      injection hg with h1
      injection h1 with h1
      exact h1.symm
    subst this
    refine hc.mono ?_
    rintro e w' ⟨u, rfl, hu, hb⟩
    have hu : Rep w' _ (.v x) u := hu
    cases hu
    exact ⟨rfl, hb⟩
  · rw [hcall] at hg
    injection hg with h1
    cases h1
def shInt : Sh := .int .i64
def shRatio : Sh := .st (.fc 1 shInt (.fc 1 shInt .f0))
def shPoint : Sh := .st (.fc 1 shInt (.fc 1 shInt (.fc 1 shInt .f0)))
def shField : Sh := .st (.fc 1 (.sl 3 shPoint) .f0)
theorem fits_ratio {ds : List D} (h : FitF (.fc 1 shInt (.fc 1 shInt .f0)) ds) : ∃ n m : Int, ds = [.v (.int .i64 n), .v (.int .i64 m)] := by
  obtain ⟨_, _, rfl, ⟨n, rfl⟩, _, _, rfl, ⟨m, rfl⟩, rfl⟩ := h
  exact ⟨n, m, rfl⟩
theorem fit_ratio {c : DC} (h : FitC shRatio c) : ∃ n m : Int, c = .agg [.v (.int .i64 n), .v (.int .i64 m)] := by
  obtain ⟨ds, rfl, h⟩ := h
  obtain ⟨n, m, rfl⟩ := fits_ratio h
  exact ⟨n, m, rfl⟩
end Sx
end Go.Proofs.YtgdpogdgpfjnoaaDoor

namespace Go.Proofs.YtgdpogdgpfjnoaaDoor
open Go Go.RowKit
namespace Sx
def Ty : List (Nat × TD) := [(2, .int .i64),
  (3, .int .i64),
  (4, .bool),
  (5, .int .u8),
  (9, .sc (.v (.string "".toUTF8))),
  (12, .int .u64),
  (21, .int .i32),
  (22, .st 2 [.v (.int .i64 0), .v (.int .i64 0)] [(0, 1, false), (1, 1, false)]),
  (23, .st 2 [.v (.int .i64 0), .v (.int .i64 0)] [(0, 1, false), (1, 1, false)]),
  (24, .sl 3 true [.v (.int .i64 0), .v (.int .i64 0), .v (.int .i64 0)]),
  (25, .st 1 [.nil 3] [(0, 1, false)]),
  (26, .st 1 [.nil 3] [(0, 1, false)]),
  (27, .st 3 [.v (.int .i64 0), .v (.int .i64 0), .nil 3] [(0, 2, true), (2, 1, true)]),
  (28, .st 3 [.v (.int .i64 0), .v (.int .i64 0), .nil 3] [(0, 2, true), (2, 1, true)]),
  (31, .int .i64),
  (45, .st 3 [.v (.int .i64 0), .v (.int .i64 0), .v (.int .i64 0)] [(0, 1, false), (1, 1, false), (2, 1, false)]),
  (46, .st 3 [.v (.int .i64 0), .v (.int .i64 0), .v (.int .i64 0)] [(0, 1, false), (1, 1, false), (2, 1, false)]),
  (47, .st 7 [.v (.int .u8 0), .v (.int .i64 0), .v (.int .i64 0), .v (.int .i64 0), .v (.int .i64 0), .v (.int .i64 0), .v (.int .i64 0)] [(0, 1, false), (1, 3, true), (4, 1, false), (5, 2, true)]),
  (48, .st 7 [.v (.int .u8 0), .v (.int .i64 0), .v (.int .i64 0), .v (.int .i64 0), .v (.int .i64 0), .v (.int .i64 0), .v (.int .i64 0)] [(0, 1, false), (1, 3, true), (4, 1, false), (5, 2, true)]),
  (49, .sl 1 false [.v (.int .u8 0)]),
  (55, .sl 1 false [.v (.string "".toUTF8)]),
  (68, .st 2 [.v (.pointer none), .nil 1] [(0, 1, false), (1, 1, false)]),
  (69, .st 2 [.v (.pointer none), .nil 1] [(0, 1, false), (1, 1, false)]),
  (89, .ar 7 [.v (.string "".toUTF8), .v (.string "".toUTF8), .v (.string "".toUTF8), .v (.string "".toUTF8), .v (.string "".toUTF8), .v (.string "".toUTF8), .v (.string "".toUTF8)] 7 1 false),
  (100, .int .u64),
  (109, .ar 3 [.v (.int .i64 0), .v (.int .i64 0), .v (.int .i64 0)] 3 1 false),
  (110, .sl 1 false [.v (.int .i64 0)]),
  (119, .ar 24 [.v (.int .u8 0), .v (.int .u8 0), .v (.int .u8 0), .v (.int .u8 0), .v (.int .u8 0), .v (.int .u8 0), .v (.int .u8 0), .v (.int .u8 0), .v (.int .u8 0), .v (.int .u8 0), .v (.int .u8 0), .v (.int .u8 0), .v (.int .u8 0), .v (.int .u8 0), .v (.int .u8 0), .v (.int .u8 0), .v (.int .u8 0), .v (.int .u8 0), .v (.int .u8 0), .v (.int .u8 0), .v (.int .u8 0), .v (.int .u8 0), .v (.int .u8 0), .v (.int .u8 0)] 24 1 false),
  (129, .ar 20 [.v (.int .u64 0), .v (.int .u64 0), .v (.int .u64 0), .v (.int .u64 0), .v (.int .u64 0), .v (.int .u64 0), .v (.int .u64 0), .v (.int .u64 0), .v (.int .u64 0), .v (.int .u64 0), .v (.int .u64 0), .v (.int .u64 0), .v (.int .u64 0), .v (.int .u64 0), .v (.int .u64 0), .v (.int .u64 0), .v (.int .u64 0), .v (.int .u64 0), .v (.int .u64 0), .v (.int .u64 0)] 20 1 false),
  (130, .int .u32),
  (133, .int .u64),
  (140, .st 2 [.v (.int .u8 0), .v (.int .u8 0)] [(0, 1, false), (1, 1, false)]),
  (141, .st 2 [.v (.int .u8 0), .v (.int .u8 0)] [(0, 1, false), (1, 1, false)]),
  (142, .ar 32 [.v (.int .u8 0), .v (.int .u8 0), .v (.int .u8 0), .v (.int .u8 0), .v (.int .u8 0), .v (.int .u8 0), .v (.int .u8 0), .v (.int .u8 0), .v (.int .u8 0), .v (.int .u8 0), .v (.int .u8 0), .v (.int .u8 0), .v (.int .u8 0), .v (.int .u8 0), .v (.int .u8 0), .v (.int .u8 0), .v (.int .u8 0), .v (.int .u8 0), .v (.int .u8 0), .v (.int .u8 0), .v (.int .u8 0), .v (.int .u8 0), .v (.int .u8 0), .v (.int .u8 0), .v (.int .u8 0), .v (.int .u8 0), .v (.int .u8 0), .v (.int .u8 0), .v (.int .u8 0), .v (.int .u8 0), .v (.int .u8 0), .v (.int .u8 0)] 16 2 true),
  (143, .ar 32 [.v (.int .u8 0), .v (.int .u8 0), .v (.int .u8 0), .v (.int .u8 0), .v (.int .u8 0), .v (.int .u8 0), .v (.int .u8 0), .v (.int .u8 0), .v (.int .u8 0), .v (.int .u8 0), .v (.int .u8 0), .v (.int .u8 0), .v (.int .u8 0), .v (.int .u8 0), .v (.int .u8 0), .v (.int .u8 0), .v (.int .u8 0), .v (.int .u8 0), .v (.int .u8 0), .v (.int .u8 0), .v (.int .u8 0), .v (.int .u8 0), .v (.int .u8 0), .v (.int .u8 0), .v (.int .u8 0), .v (.int .u8 0), .v (.int .u8 0), .v (.int .u8 0), .v (.int .u8 0), .v (.int .u8 0), .v (.int .u8 0), .v (.int .u8 0)] 32 1 false),
  (144, .ar 64 [.v (.int .u8 0), .v (.int .u8 0), .v (.int .u8 0), .v (.int .u8 0), .v (.int .u8 0), .v (.int .u8 0), .v (.int .u8 0), .v (.int .u8 0), .v (.int .u8 0), .v (.int .u8 0), .v (.int .u8 0), .v (.int .u8 0), .v (.int .u8 0), .v (.int .u8 0), .v (.int .u8 0), .v (.int .u8 0), .v (.int .u8 0), .v (.int .u8 0), .v (.int .u8 0), .v (.int .u8 0), .v (.int .u8 0), .v (.int .u8 0), .v (.int .u8 0), .v (.int .u8 0), .v (.int .u8 0), .v (.int .u8 0), .v (.int .u8 0), .v (.int .u8 0), .v (.int .u8 0), .v (.int .u8 0), .v (.int .u8 0), .v (.int .u8 0), .v (.int .u8 0), .v (.int .u8 0), .v (.int .u8 0), .v (.int .u8 0), .v (.int .u8 0), .v (.int .u8 0), .v (.int .u8 0), .v (.int .u8 0), .v (.int .u8 0), .v (.int .u8 0), .v (.int .u8 0), .v (.int .u8 0), .v (.int .u8 0), .v (.int .u8 0), .v (.int .u8 0), .v (.int .u8 0), .v (.int .u8 0), .v (.int .u8 0), .v (.int .u8 0), .v (.int .u8 0), .v (.int .u8 0), .v (.int .u8 0), .v (.int .u8 0), .v (.int .u8 0), .v (.int .u8 0), .v (.int .u8 0), .v (.int .u8 0), .v (.int .u8 0), .v (.int .u8 0), .v (.int .u8 0), .v (.int .u8 0), .v (.int .u8 0)] 64 1 false),
  (145, .st 4 [.v (.pointer none), .v (.pointer none), .v (.pointer none), .v (.string "".toUTF8)] [(0, 1, false), (1, 1, false), (2, 1, false), (3, 1, false)])]
theorem ty_all : TysOK Tryd.prog Ty := ⟨⟨Tryd.sizeOf2, Tryd.isAgg2, ⟨_, Tryd.zeroValue2, fun _ _ => ⟨.v _ rfl (wfB_iff rfl), trivial⟩⟩, Tryd.underlying2⟩,
  ⟨Tryd.sizeOf3, Tryd.isAgg3, ⟨_, Tryd.zeroValue3, fun _ _ => ⟨.v _ rfl (wfB_iff rfl), trivial⟩⟩, Tryd.underlying3⟩,
  ⟨Tryd.sizeOf4, Tryd.isAgg4, ⟨_, Tryd.zeroValue4, fun _ _ => ⟨.v _ rfl (wfB_iff rfl), trivial⟩⟩, Tryd.underlying4⟩,
  ⟨Tryd.sizeOf5, Tryd.isAgg5, ⟨_, Tryd.zeroValue5, fun _ _ => ⟨.v _ rfl (wfB_iff rfl), trivial⟩⟩, Tryd.underlying5⟩,
  ⟨Tryd.sizeOf9, Tryd.isAgg9, ⟨_, Tryd.zeroValue9, fun _ _ => ⟨.v _ rfl (wfB_iff rfl), trivial⟩⟩, trivial⟩,
  ⟨Tryd.sizeOf12, Tryd.isAgg12, ⟨_, Tryd.zeroValue12, fun _ _ => ⟨.v _ rfl (wfB_iff rfl), trivial⟩⟩, Tryd.underlying12⟩,
  ⟨Tryd.sizeOf21, Tryd.isAgg21, ⟨_, Tryd.zeroValue21, fun _ _ => ⟨.v _ rfl (wfB_iff rfl), trivial⟩⟩, Tryd.underlying21⟩,
  ⟨Tryd.sizeOf22, Tryd.isAgg22, ⟨_, Tryd.zeroValue22, fun _ _ => ⟨.v _ rfl (wfB_iff rfl), .v _ rfl (wfB_iff rfl), trivial⟩⟩, st_ty Tryd.underlying22 rfl ⟨rfl, Tryd.sizeOf2, Tryd.isAgg2, rfl, Tryd.sizeOf2, Tryd.isAgg2, trivial⟩⟩,
  ⟨Tryd.sizeOf23, Tryd.isAgg23, ⟨_, Tryd.zeroValue23, fun _ _ => ⟨.v _ rfl (wfB_iff rfl), .v _ rfl (wfB_iff rfl), trivial⟩⟩, st_ty Tryd.underlying23 rfl ⟨rfl, Tryd.sizeOf2, Tryd.isAgg2, rfl, Tryd.sizeOf2, Tryd.isAgg2, trivial⟩⟩,
  ⟨Tryd.sizeOf24, Tryd.isAgg24, ⟨_, Tryd.zeroValue24, fun _ _ => ⟨.nl _, trivial⟩⟩, sl_ty Tryd.underlying24 Tryd.sizeOf46 Tryd.isAgg46 Tryd.zeroValue46 rfl (show Tryd.prog.info? 46 = some Tryd.t46 by kernel_rfl) rfl rfl rfl (fun _ _ => ⟨.v _ rfl (wfB_iff rfl), .v _ rfl (wfB_iff rfl), .v _ rfl (wfB_iff rfl), trivial⟩) rfl⟩,
  ⟨Tryd.sizeOf25, Tryd.isAgg25, ⟨_, Tryd.zeroValue25, fun _ _ => ⟨.nl _, trivial⟩⟩, st_ty Tryd.underlying25 rfl ⟨rfl, Tryd.sizeOf24, Tryd.isAgg24, trivial⟩⟩,
  ⟨Tryd.sizeOf26, Tryd.isAgg26, ⟨_, Tryd.zeroValue26, fun _ _ => ⟨.nl _, trivial⟩⟩, st_ty Tryd.underlying26 rfl ⟨rfl, Tryd.sizeOf24, Tryd.isAgg24, trivial⟩⟩,
  ⟨Tryd.sizeOf27, Tryd.isAgg27, ⟨_, Tryd.zeroValue27, fun _ _ => ⟨.v _ rfl (wfB_iff rfl), .v _ rfl (wfB_iff rfl), .nl _, trivial⟩⟩, st_ty Tryd.underlying27 rfl ⟨rfl, Tryd.sizeOf23, Tryd.isAgg23, rfl, Tryd.sizeOf26, Tryd.isAgg26, trivial⟩⟩,
  ⟨Tryd.sizeOf28, Tryd.isAgg28, ⟨_, Tryd.zeroValue28, fun _ _ => ⟨.v _ rfl (wfB_iff rfl), .v _ rfl (wfB_iff rfl), .nl _, trivial⟩⟩, st_ty Tryd.underlying28 rfl ⟨rfl, Tryd.sizeOf23, Tryd.isAgg23, rfl, Tryd.sizeOf26, Tryd.isAgg26, trivial⟩⟩,
  ⟨Tryd.sizeOf31, Tryd.isAgg31, ⟨_, Tryd.zeroValue31, fun _ _ => ⟨.v _ rfl (wfB_iff rfl), trivial⟩⟩, Tryd.underlying31⟩,
  ⟨Tryd.sizeOf45, Tryd.isAgg45, ⟨_, Tryd.zeroValue45, fun _ _ => ⟨.v _ rfl (wfB_iff rfl), .v _ rfl (wfB_iff rfl), .v _ rfl (wfB_iff rfl), trivial⟩⟩, st_ty Tryd.underlying45 rfl ⟨rfl, Tryd.sizeOf3, Tryd.isAgg3, rfl, Tryd.sizeOf2, Tryd.isAgg2, rfl, Tryd.sizeOf2, Tryd.isAgg2, trivial⟩⟩,
  ⟨Tryd.sizeOf46, Tryd.isAgg46, ⟨_, Tryd.zeroValue46, fun _ _ => ⟨.v _ rfl (wfB_iff rfl), .v _ rfl (wfB_iff rfl), .v _ rfl (wfB_iff rfl), trivial⟩⟩, st_ty Tryd.underlying46 rfl ⟨rfl, Tryd.sizeOf3, Tryd.isAgg3, rfl, Tryd.sizeOf2, Tryd.isAgg2, rfl, Tryd.sizeOf2, Tryd.isAgg2, trivial⟩⟩,
  ⟨Tryd.sizeOf47, Tryd.isAgg47, ⟨_, Tryd.zeroValue47, fun _ _ => ⟨.v _ rfl (wfB_iff rfl), .v _ rfl (wfB_iff rfl), .v _ rfl (wfB_iff rfl), .v _ rfl (wfB_iff rfl), .v _ rfl (wfB_iff rfl), .v _ rfl (wfB_iff rfl), .v _ rfl (wfB_iff rfl), trivial⟩⟩, st_ty Tryd.underlying47 rfl ⟨rfl, Tryd.sizeOf5, Tryd.isAgg5, rfl, Tryd.sizeOf46, Tryd.isAgg46, rfl, Tryd.sizeOf3, Tryd.isAgg3, rfl, Tryd.sizeOf23, Tryd.isAgg23, trivial⟩⟩,
  ⟨Tryd.sizeOf48, Tryd.isAgg48, ⟨_, Tryd.zeroValue48, fun _ _ => ⟨.v _ rfl (wfB_iff rfl), .v _ rfl (wfB_iff rfl), .v _ rfl (wfB_iff rfl), .v _ rfl (wfB_iff rfl), .v _ rfl (wfB_iff rfl), .v _ rfl (wfB_iff rfl), .v _ rfl (wfB_iff rfl), trivial⟩⟩, st_ty Tryd.underlying48 rfl ⟨rfl, Tryd.sizeOf5, Tryd.isAgg5, rfl, Tryd.sizeOf46, Tryd.isAgg46, rfl, Tryd.sizeOf3, Tryd.isAgg3, rfl, Tryd.sizeOf23, Tryd.isAgg23, trivial⟩⟩,
  ⟨Tryd.sizeOf49, Tryd.isAgg49, ⟨_, Tryd.zeroValue49, fun _ _ => ⟨.nl _, trivial⟩⟩, sl_ty Tryd.underlying49 Tryd.sizeOf5 Tryd.isAgg5 Tryd.zeroValue5 rfl (show Tryd.prog.info? 5 = some Tryd.t5 by kernel_rfl) rfl rfl rfl (fun _ _ => ⟨.v _ rfl (wfB_iff rfl), trivial⟩) rfl⟩,
  ⟨Tryd.sizeOf55, Tryd.isAgg55, ⟨_, Tryd.zeroValue55, fun _ _ => ⟨.nl _, trivial⟩⟩, sl_ty Tryd.underlying55 Tryd.sizeOf9 Tryd.isAgg9 Tryd.zeroValue9 rfl (show Tryd.prog.info? 9 = some Tryd.t9 by kernel_rfl) rfl rfl rfl (fun _ _ => ⟨.v _ rfl (wfB_iff rfl), trivial⟩) rfl⟩,
  ⟨Tryd.sizeOf68, Tryd.isAgg68, ⟨_, Tryd.zeroValue68, fun _ _ => ⟨.v _ rfl (wfB_iff rfl), .nl _, trivial⟩⟩, st_ty Tryd.underlying68 rfl ⟨rfl, Tryd.sizeOf67, Tryd.isAgg67, rfl, Tryd.sizeOf49, Tryd.isAgg49, trivial⟩⟩,
  ⟨Tryd.sizeOf69, Tryd.isAgg69, ⟨_, Tryd.zeroValue69, fun _ _ => ⟨.v _ rfl (wfB_iff rfl), .nl _, trivial⟩⟩, st_ty Tryd.underlying69 rfl ⟨rfl, Tryd.sizeOf67, Tryd.isAgg67, rfl, Tryd.sizeOf49, Tryd.isAgg49, trivial⟩⟩,
  ⟨Tryd.sizeOf89, Tryd.isAgg89, ⟨_, Tryd.zeroValue89, fun _ _ => ⟨.v _ rfl (wfB_iff rfl), .v _ rfl (wfB_iff rfl), .v _ rfl (wfB_iff rfl), .v _ rfl (wfB_iff rfl), .v _ rfl (wfB_iff rfl), .v _ rfl (wfB_iff rfl), .v _ rfl (wfB_iff rfl), trivial⟩⟩, ⟨_, Tryd.underlying89, Tryd.sizeOf9, Tryd.isAgg9⟩⟩,
  ⟨Tryd.sizeOf100, Tryd.isAgg100, ⟨_, Tryd.zeroValue100, fun _ _ => ⟨.v _ rfl (wfB_iff rfl), trivial⟩⟩, Tryd.underlying100⟩,
  ⟨Tryd.sizeOf109, Tryd.isAgg109, ⟨_, Tryd.zeroValue109, fun _ _ => ⟨.v _ rfl (wfB_iff rfl), .v _ rfl (wfB_iff rfl), .v _ rfl (wfB_iff rfl), trivial⟩⟩, ⟨_, Tryd.underlying109, Tryd.sizeOf2, Tryd.isAgg2⟩⟩,
  ⟨Tryd.sizeOf110, Tryd.isAgg110, ⟨_, Tryd.zeroValue110, fun _ _ => ⟨.nl _, trivial⟩⟩, sl_ty Tryd.underlying110 Tryd.sizeOf31 Tryd.isAgg31 Tryd.zeroValue31 rfl (show Tryd.prog.info? 31 = some Tryd.t31 by kernel_rfl) rfl rfl rfl (fun _ _ => ⟨.v _ rfl (wfB_iff rfl), trivial⟩) rfl⟩,
  ⟨Tryd.sizeOf119, Tryd.isAgg119, ⟨_, Tryd.zeroValue119, fun _ _ => ⟨.v _ rfl (wfB_iff rfl), .v _ rfl (wfB_iff rfl), .v _ rfl (wfB_iff rfl), .v _ rfl (wfB_iff rfl), .v _ rfl (wfB_iff rfl), .v _ rfl (wfB_iff rfl), .v _ rfl (wfB_iff rfl), .v _ rfl (wfB_iff rfl), .v _ rfl (wfB_iff rfl), .v _ rfl (wfB_iff rfl), .v _ rfl (wfB_iff rfl), .v _ rfl (wfB_iff rfl), .v _ rfl (wfB_iff rfl), .v _ rfl (wfB_iff rfl), .v _ rfl (wfB_iff rfl), .v _ rfl (wfB_iff rfl), .v _ rfl (wfB_iff rfl), .v _ rfl (wfB_iff rfl), .v _ rfl (wfB_iff rfl), .v _ rfl (wfB_iff rfl), .v _ rfl (wfB_iff rfl), .v _ rfl (wfB_iff rfl), .v _ rfl (wfB_iff rfl), .v _ rfl (wfB_iff rfl), trivial⟩⟩, ⟨_, Tryd.underlying119, Tryd.sizeOf5, Tryd.isAgg5⟩⟩,
  ⟨Tryd.sizeOf129, Tryd.isAgg129, ⟨_, Tryd.zeroValue129, fun _ _ => ⟨.v _ rfl (wfB_iff rfl), .v _ rfl (wfB_iff rfl), .v _ rfl (wfB_iff rfl), .v _ rfl (wfB_iff rfl), .v _ rfl (wfB_iff rfl), .v _ rfl (wfB_iff rfl), .v _ rfl (wfB_iff rfl), .v _ rfl (wfB_iff rfl), .v _ rfl (wfB_iff rfl), .v _ rfl (wfB_iff rfl), .v _ rfl (wfB_iff rfl), .v _ rfl (wfB_iff rfl), .v _ rfl (wfB_iff rfl), .v _ rfl (wfB_iff rfl), .v _ rfl (wfB_iff rfl), .v _ rfl (wfB_iff rfl), .v _ rfl (wfB_iff rfl), .v _ rfl (wfB_iff rfl), .v _ rfl (wfB_iff rfl), .v _ rfl (wfB_iff rfl), trivial⟩⟩, ⟨_, Tryd.underlying129, Tryd.sizeOf100, Tryd.isAgg100⟩⟩,
  ⟨Tryd.sizeOf130, Tryd.isAgg130, ⟨_, Tryd.zeroValue130, fun _ _ => ⟨.v _ rfl (wfB_iff rfl), trivial⟩⟩, Tryd.underlying130⟩,
  ⟨Tryd.sizeOf133, Tryd.isAgg133, ⟨_, Tryd.zeroValue133, fun _ _ => ⟨.v _ rfl (wfB_iff rfl), trivial⟩⟩, Tryd.underlying133⟩,
  ⟨Tryd.sizeOf140, Tryd.isAgg140, ⟨_, Tryd.zeroValue140, fun _ _ => ⟨.v _ rfl (wfB_iff rfl), .v _ rfl (wfB_iff rfl), trivial⟩⟩, st_ty Tryd.underlying140 rfl ⟨rfl, Tryd.sizeOf5, Tryd.isAgg5, rfl, Tryd.sizeOf5, Tryd.isAgg5, trivial⟩⟩,
  ⟨Tryd.sizeOf141, Tryd.isAgg141, ⟨_, Tryd.zeroValue141, fun _ _ => ⟨.v _ rfl (wfB_iff rfl), .v _ rfl (wfB_iff rfl), trivial⟩⟩, st_ty Tryd.underlying141 rfl ⟨rfl, Tryd.sizeOf5, Tryd.isAgg5, rfl, Tryd.sizeOf5, Tryd.isAgg5, trivial⟩⟩,
  ⟨Tryd.sizeOf142, Tryd.isAgg142, ⟨_, Tryd.zeroValue142, fun _ _ => ⟨.v _ rfl (wfB_iff rfl), .v _ rfl (wfB_iff rfl), .v _ rfl (wfB_iff rfl), .v _ rfl (wfB_iff rfl), .v _ rfl (wfB_iff rfl), .v _ rfl (wfB_iff rfl), .v _ rfl (wfB_iff rfl), .v _ rfl (wfB_iff rfl), .v _ rfl (wfB_iff rfl), .v _ rfl (wfB_iff rfl), .v _ rfl (wfB_iff rfl), .v _ rfl (wfB_iff rfl), .v _ rfl (wfB_iff rfl), .v _ rfl (wfB_iff rfl), .v _ rfl (wfB_iff rfl), .v _ rfl (wfB_iff rfl), .v _ rfl (wfB_iff rfl), .v _ rfl (wfB_iff rfl), .v _ rfl (wfB_iff rfl), .v _ rfl (wfB_iff rfl), .v _ rfl (wfB_iff rfl), .v _ rfl (wfB_iff rfl), .v _ rfl (wfB_iff rfl), .v _ rfl (wfB_iff rfl), .v _ rfl (wfB_iff rfl), .v _ rfl (wfB_iff rfl), .v _ rfl (wfB_iff rfl), .v _ rfl (wfB_iff rfl), .v _ rfl (wfB_iff rfl), .v _ rfl (wfB_iff rfl), .v _ rfl (wfB_iff rfl), .v _ rfl (wfB_iff rfl), trivial⟩⟩, ⟨_, Tryd.underlying142, Tryd.sizeOf141, Tryd.isAgg141⟩⟩,
  ⟨Tryd.sizeOf143, Tryd.isAgg143, ⟨_, Tryd.zeroValue143, fun _ _ => ⟨.v _ rfl (wfB_iff rfl), .v _ rfl (wfB_iff rfl), .v _ rfl (wfB_iff rfl), .v _ rfl (wfB_iff rfl), .v _ rfl (wfB_iff rfl), .v _ rfl (wfB_iff rfl), .v _ rfl (wfB_iff rfl), .v _ rfl (wfB_iff rfl), .v _ rfl (wfB_iff rfl), .v _ rfl (wfB_iff rfl), .v _ rfl (wfB_iff rfl), .v _ rfl (wfB_iff rfl), .v _ rfl (wfB_iff rfl), .v _ rfl (wfB_iff rfl), .v _ rfl (wfB_iff rfl), .v _ rfl (wfB_iff rfl), .v _ rfl (wfB_iff rfl), .v _ rfl (wfB_iff rfl), .v _ rfl (wfB_iff rfl), .v _ rfl (wfB_iff rfl), .v _ rfl (wfB_iff rfl), .v _ rfl (wfB_iff rfl), .v _ rfl (wfB_iff rfl), .v _ rfl (wfB_iff rfl), .v _ rfl (wfB_iff rfl), .v _ rfl (wfB_iff rfl), .v _ rfl (wfB_iff rfl), .v _ rfl (wfB_iff rfl), .v _ rfl (wfB_iff rfl), .v _ rfl (wfB_iff rfl), .v _ rfl (wfB_iff rfl), .v _ rfl (wfB_iff rfl), trivial⟩⟩, ⟨_, Tryd.underlying143, Tryd.sizeOf5, Tryd.isAgg5⟩⟩,
  ⟨Tryd.sizeOf144, Tryd.isAgg144, ⟨_, Tryd.zeroValue144, fun _ _ => ⟨.v _ rfl (wfB_iff rfl), .v _ rfl (wfB_iff rfl), .v _ rfl (wfB_iff rfl), .v _ rfl (wfB_iff rfl), .v _ rfl (wfB_iff rfl), .v _ rfl (wfB_iff rfl), .v _ rfl (wfB_iff rfl), .v _ rfl (wfB_iff rfl), .v _ rfl (wfB_iff rfl), .v _ rfl (wfB_iff rfl), .v _ rfl (wfB_iff rfl), .v _ rfl (wfB_iff rfl), .v _ rfl (wfB_iff rfl), .v _ rfl (wfB_iff rfl), .v _ rfl (wfB_iff rfl), .v _ rfl (wfB_iff rfl), .v _ rfl (wfB_iff rfl), .v _ rfl (wfB_iff rfl), .v _ rfl (wfB_iff rfl), .v _ rfl (wfB_iff rfl), .v _ rfl (wfB_iff rfl), .v _ rfl (wfB_iff rfl), .v _ rfl (wfB_iff rfl), .v _ rfl (wfB_iff rfl), .v _ rfl (wfB_iff rfl), .v _ rfl (wfB_iff rfl), .v _ rfl (wfB_iff rfl), .v _ rfl (wfB_iff rfl), .v _ rfl (wfB_iff rfl), .v _ rfl (wfB_iff rfl), .v _ rfl (wfB_iff rfl), .v _ rfl (wfB_iff rfl), .v _ rfl (wfB_iff rfl), .v _ rfl (wfB_iff rfl), .v _ rfl (wfB_iff rfl), .v _ rfl (wfB_iff rfl), .v _ rfl (wfB_iff rfl), .v _ rfl (wfB_iff rfl), .v _ rfl (wfB_iff rfl), .v _ rfl (wfB_iff rfl), .v _ rfl (wfB_iff rfl), .v _ rfl (wfB_iff rfl), .v _ rfl (wfB_iff rfl), .v _ rfl (wfB_iff rfl), .v _ rfl (wfB_iff rfl), .v _ rfl (wfB_iff rfl), .v _ rfl (wfB_iff rfl), .v _ rfl (wfB_iff rfl), .v _ rfl (wfB_iff rfl), .v _ rfl (wfB_iff rfl), .v _ rfl (wfB_iff rfl), .v _ rfl (wfB_iff rfl), .v _ rfl (wfB_iff rfl), .v _ rfl (wfB_iff rfl), .v _ rfl (wfB_iff rfl), .v _ rfl (wfB_iff rfl), .v _ rfl (wfB_iff rfl), .v _ rfl (wfB_iff rfl), .v _ rfl (wfB_iff rfl), .v _ rfl (wfB_iff rfl), .v _ rfl (wfB_iff rfl), .v _ rfl (wfB_iff rfl), .v _ rfl (wfB_iff rfl), .v _ rfl (wfB_iff rfl), trivial⟩⟩, ⟨_, Tryd.underlying144, Tryd.sizeOf5, Tryd.isAgg5⟩⟩,
  ⟨Tryd.sizeOf145, Tryd.isAgg145, ⟨_, Tryd.zeroValue145, fun _ _ => ⟨.v _ rfl (wfB_iff rfl), .v _ rfl (wfB_iff rfl), .v _ rfl (wfB_iff rfl), .v _ rfl (wfB_iff rfl), trivial⟩⟩, st_ty Tryd.underlying145 rfl ⟨rfl, Tryd.sizeOf17, Tryd.isAgg17, rfl, Tryd.sizeOf17, Tryd.isAgg17, rfl, Tryd.sizeOf17, Tryd.isAgg17, rfl, Tryd.sizeOf9, Tryd.isAgg9, trivial⟩⟩, trivial⟩
theorem ty_okK (K mu co me : List Nat) : ΓOK Tryd.prog ⟨Ty, K, mu, co, me, false⟩ := tys_ok ty_all
theorem ty_okD : ΓOK Tryd.prog ⟨Ty, [], [], [], [], true⟩ := tys_ok ty_all
theorem ty_ok : ΓOK Tryd.prog ⟨Ty, [], [], [], [], false⟩ := tys_ok ty_all
theorem eqv23 (a0 b0 : Int) (a1 b1 : Int) (x y : Operand) (w : World) : (do eqGuard .eql 23 x y (.agg #[.int .i64 a0, .int .i64 a1]) (.agg #[.int .i64 b0, .int .i64 b1]); binOp .eql 23 (.agg #[.int .i64 a0, .int .i64 a1]) (.agg #[.int .i64 b0, .int .i64 b1]) : Sem Value).run Tryd.prog w = .ok (.bool (decide (a0 = b0 ∧ a1 = b1))) w := by
  by_cases h0 : a0 = b0
  · skip
    by_cases h1 : a1 = b1
    · skip
      simp [go_sem, eqGuard, binOp, Op.equal, Op.maxDepth, h0, h1]
    · simp [go_sem, eqGuard, binOp, Op.equal, Op.maxDepth, h0, h1]
  · simp [go_sem, eqGuard, binOp, Op.equal, Op.maxDepth, h0]
theorem nev23 (a0 b0 : Int) (a1 b1 : Int) (x y : Operand) (w : World) : (do eqGuard .neq 23 x y (.agg #[.int .i64 a0, .int .i64 a1]) (.agg #[.int .i64 b0, .int .i64 b1]); binOp .neq 23 (.agg #[.int .i64 a0, .int .i64 a1]) (.agg #[.int .i64 b0, .int .i64 b1]) : Sem Value).run Tryd.prog w = .ok (.bool (decide (¬ (a0 = b0 ∧ a1 = b1)))) w := by
  by_cases h0 : a0 = b0
  · skip
    by_cases h1 : a1 = b1
    · skip
      simp [go_sem, eqGuard, binOp, Op.equal, Op.maxDepth, h0, h1]
    · simp [go_sem, eqGuard, binOp, Op.equal, Op.maxDepth, h0, h1]
  · simp [go_sem, eqGuard, binOp, Op.equal, Op.maxDepth, h0]
theorem nev46 (a0 b0 : Int) (a1 b1 : Int) (a2 b2 : Int) (x y : Operand) (w : World) : (do eqGuard .neq 46 x y (.agg #[.int .i64 a0, .int .i64 a1, .int .i64 a2]) (.agg #[.int .i64 b0, .int .i64 b1, .int .i64 b2]); binOp .neq 46 (.agg #[.int .i64 a0, .int .i64 a1, .int .i64 a2]) (.agg #[.int .i64 b0, .int .i64 b1, .int .i64 b2]) : Sem Value).run Tryd.prog w = .ok (.bool (decide (¬ (a0 = b0 ∧ a1 = b1 ∧ a2 = b2)))) w := by
  by_cases h0 : a0 = b0
  · skip
    by_cases h1 : a1 = b1
    · skip
      by_cases h2 : a2 = b2
      · skip
        simp [go_sem, eqGuard, binOp, Op.equal, Op.maxDepth, h0, h1, h2]
      · simp [go_sem, eqGuard, binOp, Op.equal, Op.maxDepth, h0, h1, h2]
    · simp [go_sem, eqGuard, binOp, Op.equal, Op.maxDepth, h0, h1]
  · simp [go_sem, eqGuard, binOp, Op.equal, Op.maxDepth, h0]
theorem eqv48 (a0 b0 : Int) (a1 b1 : Int) (a2 b2 : Int) (a3 b3 : Int) (a4 b4 : Int) (a5 b5 : Int) (a6 b6 : Int) (x y : Operand) (w : World) : (do eqGuard .eql 48 x y (.agg #[.int .u8 a0, .int .i64 a1, .int .i64 a2, .int .i64 a3, .int .i64 a4, .int .i64 a5, .int .i64 a6]) (.agg #[.int .u8 b0, .int .i64 b1, .int .i64 b2, .int .i64 b3, .int .i64 b4, .int .i64 b5, .int .i64 b6]); binOp .eql 48 (.agg #[.int .u8 a0, .int .i64 a1, .int .i64 a2, .int .i64 a3, .int .i64 a4, .int .i64 a5, .int .i64 a6]) (.agg #[.int .u8 b0, .int .i64 b1, .int .i64 b2, .int .i64 b3, .int .i64 b4, .int .i64 b5, .int .i64 b6]) : Sem Value).run Tryd.prog w = .ok (.bool (decide (a0 = b0 ∧ a1 = b1 ∧ a2 = b2 ∧ a3 = b3 ∧ a4 = b4 ∧ a5 = b5 ∧ a6 = b6))) w := by
  by_cases h0 : a0 = b0
  · skip
    by_cases h1 : a1 = b1
    · skip
      by_cases h2 : a2 = b2
      · skip
        by_cases h3 : a3 = b3
        · skip
          by_cases h4 : a4 = b4
          · skip
            by_cases h5 : a5 = b5
            · skip
              by_cases h6 : a6 = b6
              · skip
                simp [go_sem, eqGuard, binOp, Op.equal, Op.maxDepth, h0, h1, h2, h3, h4, h5, h6]
              · simp [go_sem, eqGuard, binOp, Op.equal, Op.maxDepth, h0, h1, h2, h3, h4, h5, h6]
            · simp [go_sem, eqGuard, binOp, Op.equal, Op.maxDepth, h0, h1, h2, h3, h4, h5]
          · simp [go_sem, eqGuard, binOp, Op.equal, Op.maxDepth, h0, h1, h2, h3, h4]
        · simp [go_sem, eqGuard, binOp, Op.equal, Op.maxDepth, h0, h1, h2, h3]
      · simp [go_sem, eqGuard, binOp, Op.equal, Op.maxDepth, h0, h1, h2]
    · simp [go_sem, eqGuard, binOp, Op.equal, Op.maxDepth, h0, h1]
  · simp [go_sem, eqGuard, binOp, Op.equal, Op.maxDepth, h0]
theorem nev48 (a0 b0 : Int) (a1 b1 : Int) (a2 b2 : Int) (a3 b3 : Int) (a4 b4 : Int) (a5 b5 : Int) (a6 b6 : Int) (x y : Operand) (w : World) : (do eqGuard .neq 48 x y (.agg #[.int .u8 a0, .int .i64 a1, .int .i64 a2, .int .i64 a3, .int .i64 a4, .int .i64 a5, .int .i64 a6]) (.agg #[.int .u8 b0, .int .i64 b1, .int .i64 b2, .int .i64 b3, .int .i64 b4, .int .i64 b5, .int .i64 b6]); binOp .neq 48 (.agg #[.int .u8 a0, .int .i64 a1, .int .i64 a2, .int .i64 a3, .int .i64 a4, .int .i64 a5, .int .i64 a6]) (.agg #[.int .u8 b0, .int .i64 b1, .int .i64 b2, .int .i64 b3, .int .i64 b4, .int .i64 b5, .int .i64 b6]) : Sem Value).run Tryd.prog w = .ok (.bool (decide (¬ (a0 = b0 ∧ a1 = b1 ∧ a2 = b2 ∧ a3 = b3 ∧ a4 = b4 ∧ a5 = b5 ∧ a6 = b6)))) w := by
  by_cases h0 : a0 = b0
  · skip
    by_cases h1 : a1 = b1
    · skip
      by_cases h2 : a2 = b2
      · skip
        by_cases h3 : a3 = b3
        · skip
          by_cases h4 : a4 = b4
          · skip
            by_cases h5 : a5 = b5
            · skip
              by_cases h6 : a6 = b6
              · skip
                simp [go_sem, eqGuard, binOp, Op.equal, Op.maxDepth, h0, h1, h2, h3, h4, h5, h6]
              · simp [go_sem, eqGuard, binOp, Op.equal, Op.maxDepth, h0, h1, h2, h3, h4, h5, h6]
            · simp [go_sem, eqGuard, binOp, Op.equal, Op.maxDepth, h0, h1, h2, h3, h4, h5]
          · simp [go_sem, eqGuard, binOp, Op.equal, Op.maxDepth, h0, h1, h2, h3, h4]
        · simp [go_sem, eqGuard, binOp, Op.equal, Op.maxDepth, h0, h1, h2, h3]
      · simp [go_sem, eqGuard, binOp, Op.equal, Op.maxDepth, h0, h1, h2]
    · simp [go_sem, eqGuard, binOp, Op.equal, Op.maxDepth, h0, h1]
  · simp [go_sem, eqGuard, binOp, Op.equal, Op.maxDepth, h0]
end Sx
end Go.Proofs.YtgdpogdgpfjnoaaDoor

namespace Go.Proofs.YtgdpogdgpfjnoaaDoor
open Go.RowKit Go.Sort
theorem gcd_any (a b : Nat) (w : World) :
    Calls Tryd.prog 67 #[.int .u64 a, .int .u64 b] w fun e w' => e = .returned (.int .u64 (Nat.gcd a b : Nat)) ∧ Below w.heap.size w w' := by
  go_enter Tryd.func67, Tryd.ntmps67
  go_wp2
  go_loopw [0, 1] (fun x y wr => ∃ n m : Nat, x = .int .u64 n ∧ y = .int .u64 m ∧ Hid (Nat.gcd n m = Nat.gcd a b) ∧ Below w.heap.size w wr) (fun _ y _ => (intOf y).toNat)
  case atStart => exact ⟨a, b, rfl, rfl, Lib.hid rfl, Below.refl _ _⟩
  case round =>
    obtain ⟨n, m, rfl, rfl, hg, hb⟩ := hrel
    by_cases h0 : 0 < m
    · go_wp2
      go_quiet (fail)
      go_wp2
      have hlt := Nat.mod_lt n h0
      refine ⟨⟨m, n % m, rfl, by simp, Lib.hid ?_, below_drewN hb _⟩, ?_⟩
      · rw [← hg.out, Nat.gcd_comm n m, Nat.gcd_rec m n, Nat.gcd_comm]
      · show ((n : Int) % (m : Int)).toNat < ((m : Int)).toNat
        omega
    · go_wp2
      go_ret
      refine ⟨ret_int ?_, hb⟩
      rw [← hg.out]
      obtain rfl : m = 0 := by omega
      simp
theorem abs_any (n : Int) (w : World) (h0 : -9223372036854775808 ≤ n) (h1 : n ≤ 9223372036854775807) :
    Calls Tryd.prog 68 #[.int .i64 n] w fun e w' => e = .returned (.int .u64 (n.natAbs : Nat)) ∧ Below w.heap.size w w' := by
  have HW : Hid (n < 0 → IntKind.u64.wrap (-IntKind.u64.wrap n) = (n.natAbs : Nat)) := Lib.hid (by
    intro hn
    rw [IntKind.wrap_u64, IntKind.wrap_u64]
    omega)
  by_cases hn : n < 0
  · go_enter Tryd.func68, Tryd.ntmps68
    go_wp2
    go_ret
    exact ⟨ret_int (HW.out hn), Below.refl _ _⟩
  · go_enter Tryd.func68, Tryd.ntmps68
    go_wp2
    go_ret
    refine ⟨ret_int ?_, Below.refl _ _⟩
    omega
def chk (n d : Int) : Int := if d < 1 ∨ n = -9223372036854775808 ∨ 1 < Nat.gcd d.toNat n.natAbs then 8 else 0
theorem check_any (n d : Int) (w : World) (h0 : -9223372036854775808 ≤ n) (h1 : n ≤ 9223372036854775807) (h2 : -9223372036854775808 ≤ d) (h3 : d ≤ 9223372036854775807) :
    Calls Tryd.prog 43 #[.agg #[.int .i64 n, .int .i64 d]] w fun e w' => e = .returned (.int .i64 (chk n d)) ∧ Below w.heap.size w w' := by
  by_cases hd : d < 1
  · have hch : chk n d = 8 := by unfold chk; rw [if_pos (.inl hd)]
    rw [hch]
    go_enter Tryd.func43, Tryd.ntmps43
    go_wp2
    refine wp_region_quiet_below (by kernel_rfl) (by kernel_rfl) ?_
    repeat (go_big_quiet_step (fail))
    refine wpQuiet_nil ?_
    intro _ hw'
    obtain ⟨⟨dq, osq⟩, hw''⟩ := hw'
    subst hw''
    go_wp2
    go_ret
    exact ⟨rfl, below_reg (below_alloc (Below.refl _ _) _) _ _⟩
  · have hdf : decide (d < 1) = false := by simpa using hd
    by_cases hm : n = -9223372036854775808
    · have hch : chk n d = 8 := by unfold chk; rw [if_pos (.inr (.inl hm))]
      rw [hch]
      have hmb : (n == -9223372036854775808) = true := by simpa using hm
      clear hm
      go_enter Tryd.func43, Tryd.ntmps43
      go_wp2
      refine wp_region_quiet_below (by kernel_rfl) (by kernel_rfl) ?_
      repeat (go_big_quiet_step (fail))
      refine wpQuiet_nil ?_
      intro _ hw'
      obtain ⟨⟨dq, osq⟩, hw''⟩ := hw'
      subst hw''
      go_wp2
      go_ret
      exact ⟨rfl, below_reg (below_alloc (Below.refl _ _) _) _ _⟩
    · have hmb : (n == -9223372036854775808) = false := by simpa using hm
      obtain ⟨e, rfl⟩ := Int.eq_ofNat_of_zero_le (show 0 ≤ d by omega)
      by_cases hg : 1 < Nat.gcd e n.natAbs
      · have hch : chk n e = 8 := by unfold chk; rw [if_pos (.inr (.inr (by simpa using hg)))]
        rw [hch]
        clear hm
        go_enter Tryd.func43, Tryd.ntmps43
        go_wp2
        refine wp_region_quiet_below (by kernel_rfl) (by kernel_rfl) ?_
        repeat (go_big_quiet_step (first | (go_at_call 68; (with_reducible refine Calls.regrown_of (abs_any _ _ ?_ ?_)); omega; omega) | (go_at_call 67; (with_reducible refine Calls.regrown_of (gcd_any _ _ _)))))
        refine wpQuiet_nil ?_
        intro _ hw'
        obtain ⟨⟨dq, osq⟩, hw''⟩ := hw'
        subst hw''
        go_wp2
        go_ret
        exact ⟨rfl, below_reg (below_alloc (Below.refl _ _) _) _ _⟩
      · have hch : chk n e = 0 := by unfold chk; rw [if_neg (by rintro (h | h | h) <;> first | omega | exact hm h | exact hg (by simpa using h))]
        rw [hch]
        clear hm
        go_enter Tryd.func43, Tryd.ntmps43
        go_wp2
        refine wp_region_quiet_below (by kernel_rfl) (by kernel_rfl) ?_
        repeat (go_big_quiet_step (first | (go_at_call 68; (with_reducible refine Calls.regrown_of (abs_any _ _ ?_ ?_)); omega; omega) | (go_at_call 67; (with_reducible refine Calls.regrown_of (gcd_any _ _ _)))))
        refine wpQuiet_nil ?_
        intro _ hw'
        obtain ⟨⟨dq, osq⟩, hw''⟩ := hw'
        subst hw''
        go_wp2
        go_ret
        exact ⟨rfl, below_reg (below_alloc (Below.refl _ _) _) _ _⟩
end Go.Proofs.YtgdpogdgpfjnoaaDoor
