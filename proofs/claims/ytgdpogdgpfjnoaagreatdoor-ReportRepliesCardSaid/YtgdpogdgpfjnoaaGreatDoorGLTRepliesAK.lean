import Derived.Test.YtgdpogdgpfjnoaaGreatDoorGLTRepliesAJ
import Derived.Deep.Slices
import Derived.Deep.Strs
import Derived.ChangeSame
import Derived.ChangeKeysEq
import Derived.Test.YtgdpogdgpfjnoaaGreatDoorProg
import Derived.Test.YtgdpogdgpfjnoaaGreatDoorChecked
set_option linter.all false
namespace Go.Proofs.YtgdpogdgpfjnoaaGreatDoor
open Go Go.RowKit Go.ChangeShapes Go.WideShapes Go.Deep Go.Proofs.YtgdpogdgpfjnoaaGreatDoor.Sx
namespace Sx
inductive Sh where
  | int (k : IntKind)
  | bool
  | str
  | sl (ek : Nat) (e : Sh)
  | st (fs : Sh)
  | f0
  | fc (n : Nat) (h t : Sh)
mutual
def TyS (P : Program) : Sh → Nat → Prop
  | .int k, t => P.underlying t = some (.int k)
  | .bool, t => P.underlying t = some .bool
  | .str, t => P.underlying t = some .string
  | .sl ek e, t => 0 < ek ∧ ∃ u, P.underlying t = some (.slice u) ∧ P.cellsOf u = ek ∧ TyS P e u
  | .st fs, t => ∃ F : Array Field, P.underlying t = some (.struct F) ∧ TyF P (P.cellsOf t) fs F.toList 0
  | .f0, _ => False
  | .fc _ _ _, _ => False
def TyF (P : Program) (tot : Nat) : Sh → List Field → Nat → Prop
  | .f0, [], off => off = tot
  | .fc n h t, f :: fs, off => f.offset = off ∧ P.cellsOf f.type = n ∧ TyS P h f.type ∧ TyF P tot t fs (off + n)
  | _, _, _ => False
end
mutual
def Fits : Sh → List D → Prop
  | .int k, ds => ∃ n, ds = [.v (.int k n)]
  | .bool, ds => ∃ b, ds = [.v (.bool b)]
  | .str, ds => ∃ s : ByteArray, s.size ≤ maxLen ∧ ds = [.v (.string s)]
  | .sl ek e, ds => ∃ l : List (List D), ds = [.list ek l] ∧ ∀ x ∈ l, Fits e x
  | .st fs, ds => FitF fs ds
  | .f0, _ => False
  | .fc _ _ _, _ => False
def FitF : Sh → List D → Prop
  | .f0, ds => ds = []
  | .fc _ h t, ds => ∃ a b, ds = a ++ b ∧ Fits h a ∧ FitF t b
  | _, _ => False
end
section
variable {H : Type} {enc : TypeId × Value → H} {P : Program} {w : World} {base : Nat} {spare : Nat → Bool} {held : Bool}
theorem lit_wf {k : IntKind} {n : Int} (h : (Lit.int k n).wf = true) : inK k n := by
  rw [inK_iff]
  simpa [Lit.wf] using h
theorem TyF_le : ∀ (s : Sh) (F : List Field) (off tot : Nat), TyF P tot s F off → off ≤ tot
  | .f0, [], off, tot, h => Nat.le_of_eq h
  | .fc n h t, f :: fs, off, tot, hs => by
    have := TyF_le t fs (off + n) tot hs.2.2.2
    omega
  | .f0, _ :: _, _, _, hs => hs.elim
  | .fc _ _ _, [], _, _, hs => hs.elim
  | .int _, [], _, _, hs => hs.elim
  | .int _, _ :: _, _, _, hs => hs.elim
  | .bool, [], _, _, hs => hs.elim
  | .bool, _ :: _, _, _, hs => hs.elim
  | .str, [], _, _, hs => hs.elim
  | .str, _ :: _, _, _, hs => hs.elim
  | .sl _ _, [], _, _, hs => hs.elim
  | .sl _ _, _ :: _, _, _, hs => hs.elim
  | .st _, [], _, _, hs => hs.elim
  | .st _, _ :: _, _, _, hs => hs.elim
theorem one_cell {d : D} {v : Value} {M : Nat → Prop} (ho : v.cells = #[v]) (h : DsR w M [d] v.cells.toList) : DCR w M (.one d) v := by
  rw [ho] at h
  exact h.1
mutual
theorem trod_fits : ∀ (s : Sh) (t fuel : Nat) (cs : List Value) (x : DataW H × List MemPlace), TyS P s t → DataW.trod enc P w base spare held fuel t cs = some x → ∃ ds, DsR w (fun _ => False) ds cs ∧ Fits s ds
  | .int k, t, fuel, cs, x, hs, h => by
    obtain ⟨n, rfl, _, hw⟩ := DataW.trod_int hs h
    exact ⟨[.v (.int k n)], ⟨.v _ rfl (lit_wf hw), trivial⟩, n, rfl⟩
  | .bool, t, fuel, cs, x, hs, h => by
    obtain ⟨b, rfl, _⟩ := DataW.trod_bool hs h
    exact ⟨[.v (.bool b)], ⟨.v _ rfl trivial, trivial⟩, b, rfl⟩
  | .str, t, fuel, cs, x, hs, h => by
    obtain ⟨s, rfl, _, hl⟩ := DataW.trod_string hs h
    exact ⟨[.v (.string s)], ⟨.v _ rfl trivial, trivial⟩, s, hl, rfl⟩
  | .sl ek e, t, fuel, cs, x, hs, h => by
    obtain ⟨hpos, u, hu, hk, hE⟩ := hs
    rcases open_slice hu h with ⟨rfl, _⟩ | ⟨a, len, cap, m, n, D', Pl, rfl, hb, hl, hm, hmm, _, hi⟩
    · exact ⟨[.list ek []], ⟨.nil ek none 0 (by omega) (fun _ => rfl), trivial⟩, [], rfl, by simp⟩
    · have hcap : cap ≤ 9223372036854775807 := by simp only [maxLen] at hm; exact hm
      rcases Nat.eq_zero_or_pos len with h0 | h0
      · subst h0
        exact ⟨[.list ek []], ⟨.nil ek (some a) cap hcap (fun h => by cases h), trivial⟩, [], rfl, by simp⟩
      have key : ∀ i, ∃ p : List Value × List D, i < len → p.1.length = ek ∧ (∀ j (hj : j < p.1.length), w.cell? ((a.add (i * ek)).add j) = some p.1[j]) ∧ DsR w (fun _ => False) p.2 p.1 ∧ Fits e p.2 := fun i => by
        by_cases hi' : i < len
        · obtain ⟨cs', hc, ht⟩ := hi i (by rw [hmm]; split <;> omega)
          obtain ⟨ds, h1, h2⟩ := trod_fits e u n cs' _ hE ht
          rw [hk] at hc
          obtain ⟨_, hcl, hat⟩ := World.cells?_some hc
          exact ⟨(cs', ds), fun _ => ⟨hcl, fun j hj => by rw [hat j (by simp only at hj; omega), List.getElem?_eq_getElem hj], h1, h2⟩⟩
        · exact ⟨([], []), fun h => absurd h hi'⟩
      obtain ⟨g, hg⟩ := Classical.axiomOfChoice key
      have hspot : a.spot = none := by
        obtain ⟨h1, h2, _⟩ := hg 0 h0
        have := h2 0 (by omega)
        rw [Nat.zero_mul] at this
        have e0 : (a.add 0).add 0 = a := rfl
        rw [e0] at this
        unfold World.cell? at this
        cases hs : a.spot with
        | none => rfl
        | some x => rw [hs] at this; split at this <;> simp at this
      obtain ⟨b, off, spot⟩ := a
      simp only at hspot
      subst hspot
      have hbl : b < w.heap.size := by
        obtain ⟨h1, h2, _⟩ := hg 0 h0
        have := h2 0 (by omega)
        rw [add_plain, add_plain] at this
        unfold World.cell? at this
        rcases Nat.lt_or_ge b w.heap.size with h | h
        · exact h
        · simp [Array.getElem?_eq_none h] at this
      have hll : ((List.range len).map fun i => (g i).2).length = len := by simp
      refine ⟨[.list ek ((List.range len).map fun i => (g i).2)], ⟨?_, trivial⟩, _, rfl, fun x hx => ?_⟩
      · conv => arg 4; rw [show len = ((List.range len).map fun i => (g i).2).length from hll.symm]
        refine .list (fun i j => (g i).1.getD j undef) (by rw [hll]; exact hl) hcap (fun h => h) hbl (fun x hx => ?_) (fun i j hi' hj => ?_) (fun i j hi' hj => ?_)
        · simp only [List.mem_map, List.mem_range] at hx
          obtain ⟨i, hi', rfl⟩ := hx
          obtain ⟨h1, _, h3, _⟩ := hg i hi'
          rw [← h3.length, h1]
        · rw [hll] at hi'
          obtain ⟨h1, h2, _⟩ := hg i hi'
          have := h2 j (by omega)
          rw [add_plain, add_plain] at this
          rw [this]
          simp [List.getElem?_eq_getElem (show j < (g i).1.length by omega)]
        · rw [hll] at hi'
          obtain ⟨h1, _, h3, _⟩ := hg i hi'
          have e1 : ((List.range len).map fun i => (g i).2)[i] = (g i).2 := by simp
          have hj' : j < (g i).2.length := by rw [← e1]; exact hj
          obtain ⟨v, hv, hr⟩ := h3.get j _ (List.getElem?_eq_getElem hj')
          have e2 : (g i).1.getD j undef = v := by rw [List.getD_eq_getElem?_getD, hv]; rfl
          rw [e2]
          have e3 : ((List.range len).map fun i => (g i).2)[i][j] = (g i).2[j] := by simp
          rw [e3]; exact hr
      · simp only [List.mem_map, List.mem_range] at hx
        obtain ⟨i, hi', rfl⟩ := hx
        exact (hg i hi').2.2.2
  | .st fs, t, fuel, cs, x, hs, h => by
    obtain ⟨F, hF, hT⟩ := hs
    obtain ⟨ys, n, hn, hy, hlen, hyl, hf⟩ := DataW.trod_struct hF h
    obtain ⟨ds, h1, h2⟩ := trodF_fits fs n F.toList 0 cs (P.cellsOf t) hT (by omega) (Nat.zero_le _) (fun j f hj => by
      have hj' : F[j]? = some f := by simpa using hj
      have := hf j f hj'
      have hjl : j < F.size := (Array.getElem?_eq_some_iff.1 hj').1
      exact ⟨ys[j]'(by omega), by rw [this, List.getElem?_eq_getElem (by omega)]⟩)
    exact ⟨ds, by simpa using h1, h2⟩
  | .f0, _, _, _, _, hs, _ => hs.elim
  | .fc _ _ _, _, _, _, _, hs, _ => hs.elim
theorem trodF_fits : ∀ (s : Sh) (n : Nat) (F : List Field) (off : Nat) (cs : List Value) (tot : Nat), TyF P tot s F off → cs.length = tot → off ≤ tot →
    (∀ (j : Nat) (f : Field), F[j]? = some f → ∃ y : DataW H × List MemPlace, DataW.trod enc P w base spare held n f.type ((cs.drop f.offset).take (P.cellsOf f.type)) = some y) → ∃ ds, DsR w (fun _ => False) ds (cs.drop off) ∧ FitF s ds
  | .f0, n, [], off, cs, tot, hs, hl, _, _ => by
    have hs : off = tot := hs
    exact ⟨[], by rw [List.drop_eq_nil_of_le (by omega)]; trivial, rfl⟩
  | .fc m h t, n, f :: fs, off, cs, tot, hs, hl, ho, hf => by
    obtain ⟨h1, h2, h3, h4⟩ := hs
    obtain ⟨y, hy⟩ := hf 0 f rfl
    obtain ⟨a, ha, hfa⟩ := trod_fits h f.type n _ y h3 hy
    rw [h1, h2] at ha
    have hmle : off + m ≤ tot := TyF_le t fs (off + m) tot h4
    obtain ⟨b, hb, hfb⟩ := trodF_fits t n fs (off + m) cs tot h4 hl hmle (fun j g hj => hf (j + 1) g (by simpa using hj))
    refine ⟨a ++ b, ?_, a, b, rfl, hfa, hfb⟩
    have e : cs.drop off = (cs.drop off).take m ++ cs.drop (off + m) := by
      rw [← List.drop_drop, List.take_append_drop]
    rw [e]
    exact ha.append hb
  | .f0, _, _ :: _, _, _, _, hs, _, _, _ => hs.elim
  | .fc _ _ _, _, [], _, _, _, hs, _, _, _ => hs.elim
  | .int _, _, [], _, _, _, hs, _, _, _ => hs.elim
  | .int _, _, _ :: _, _, _, _, hs, _, _, _ => hs.elim
  | .bool, _, [], _, _, _, hs, _, _, _ => hs.elim
  | .bool, _, _ :: _, _, _, _, hs, _, _, _ => hs.elim
  | .str, _, [], _, _, _, hs, _, _, _ => hs.elim
  | .str, _, _ :: _, _, _, _, hs, _, _, _ => hs.elim
  | .sl _ _, _, [], _, _, _, hs, _, _, _ => hs.elim
  | .sl _ _, _, _ :: _, _, _, _, hs, _, _, _ => hs.elim
  | .st _, _, [], _, _, _, hs, _, _, _ => hs.elim
  | .st _, _, _ :: _, _, _, _, hs, _, _, _ => hs.elim
end
theorem exists_map {α β : Type} {f : α → β} : ∀ {l : List β}, (∀ x ∈ l, ∃ y, x = f y) → ∃ l' : List α, l = l'.map f
  | [], _ => ⟨[], rfl⟩
  | x :: l, h => by
    obtain ⟨y, rfl⟩ := h x (List.mem_cons_self ..)
    obtain ⟨l', rfl⟩ := exists_map (l := l) fun z hz => h z (List.mem_cons_of_mem _ hz)
    exact ⟨y :: l', rfl⟩
def FitC : Sh → DC → Prop
  | .st fs, c => ∃ ds, c = .agg ds ∧ FitF fs ds
  | s, c => ∃ d, c = .one d ∧ Fits s [d]
theorem arg_data {r : Reach} {b0 t : Nat} {s : Sh} {v : Value} {d : DataW H} {p : List MemPlace} (hs : TyS P s t) (hv : Value.okWide P w r b0 t v) (h : DataW.Trod enc P w base spare held t v d p) : ∃ c, DCR w (fun _ => False) c v ∧ FitC s c := by
  obtain ⟨fuel, h⟩ := h
  obtain ⟨ds, h1, h2⟩ := trod_fits s t fuel _ _ hs h
  cases s with
  | st fs =>
    obtain ⟨F, hF, _⟩ := hs
    obtain ⟨cs, rfl, _⟩ := okWide_struct hF hv
    exact ⟨.agg ds, ⟨cs.toList, by simp, by simpa [Value.cells] using h1⟩, ds, rfl, h2⟩
  | int k =>
    obtain ⟨m, rfl⟩ := okWide_int hs hv
    obtain ⟨n, rfl⟩ := h2
    exact ⟨.one _, one_cell rfl h1, _, rfl, n, rfl⟩
  | bool =>
    obtain ⟨m, rfl⟩ := okWide_bool hs hv
    obtain ⟨n, rfl⟩ := h2
    exact ⟨.one _, one_cell rfl h1, _, rfl, n, rfl⟩
  | str =>
    obtain ⟨m, rfl⟩ := okWide_string hs hv
    obtain ⟨n, hn, rfl⟩ := h2
    exact ⟨.one _, one_cell rfl h1, _, rfl, n, hn, rfl⟩
  | sl ek e =>
    obtain ⟨_, u, hu, _⟩ := hs
    obtain ⟨x, y, z, rfl⟩ := okWide_slice hu hv
    obtain ⟨l, rfl, h2⟩ := h2
    exact ⟨.one _, one_cell rfl h1, _, rfl, l, rfl, h2⟩
  | f0 => exact hs.elim
  | fc n h t => exact hs.elim
end
def kEq : IntKind → IntKind → Bool := fun a b => decide (a = b)
mutual
def tyB (P : Program) : Sh → Nat → Bool
  | .int k, t => match P.underlying t with | some (.int k') => kEq k k' | _ => false
  | .bool, t => match P.underlying t with | some .bool => true | _ => false
  | .str, t => match P.underlying t with | some .string => true | _ => false
  | .sl ek e, t => Nat.ble 1 ek && match P.underlying t with | some (.slice u) => Nat.beq (P.cellsOf u) ek && tyB P e u | _ => false
  | .st fs, t => match P.underlying t with | some (.struct F) => tyFB P (P.cellsOf t) fs F.toList 0 | _ => false
  | .f0, _ => false
  | .fc _ _ _, _ => false
def tyFB (P : Program) (tot : Nat) : Sh → List Field → Nat → Bool
  | .f0, [], off => Nat.beq off tot
  | .fc n h t, f :: fs, off => Nat.beq f.offset off && (Nat.beq (P.cellsOf f.type) n && (tyB P h f.type && tyFB P tot t fs (off + n)))
  | _, _, _ => false
end
mutual
theorem tyB_ok {P : Program} : ∀ {s : Sh} {t : Nat}, tyB P s t = true → TyS P s t
  | .int k, t, h => by
    unfold tyB at h
    split at h
    · rename_i k' h1
      rw [TyS, h1, of_decide_eq_true h]
    · cases h
  | .bool, t, h => by
    unfold tyB at h
    split at h
    · rename_i h1; exact h1
    · cases h
  | .str, t, h => by
    unfold tyB at h
    split at h
    · rename_i h1; exact h1
    · cases h
  | .sl ek e, t, h => by
    unfold tyB at h
    rw [Bool.and_eq_true] at h
    obtain ⟨h1, h2⟩ := h
    split at h2
    · rename_i u h3
      rw [Bool.and_eq_true] at h2
      exact ⟨Nat.le_of_ble_eq_true h1, u, h3, Nat.eq_of_beq_eq_true h2.1, tyB_ok h2.2⟩
    · cases h2
  | .st fs, t, h => by
    unfold tyB at h
    split at h
    · rename_i F h1
      exact ⟨F, h1, tyFB_ok h⟩
    · cases h
  | .f0, t, h => by unfold tyB at h; cases h
  | .fc _ _ _, t, h => by unfold tyB at h; cases h
theorem tyFB_ok {P : Program} {tot : Nat} : ∀ {s : Sh} {F : List Field} {off : Nat}, tyFB P tot s F off = true → TyF P tot s F off
  | .f0, [], off, h => by unfold tyFB at h; exact Nat.eq_of_beq_eq_true h
  | .fc n h t, f :: fs, off, hs => by
    unfold tyFB at hs
    simp only [Bool.and_eq_true] at hs
    exact ⟨Nat.eq_of_beq_eq_true hs.1, Nat.eq_of_beq_eq_true hs.2.1, tyB_ok hs.2.2.1, tyFB_ok hs.2.2.2⟩
  | .f0, _ :: _, _, h => by unfold tyFB at h; cases h
  | .fc _ _ _, [], _, h => by unfold tyFB at h; cases h
  | .int _, _, _, h => by unfold tyFB at h; cases h
  | .bool, _, _, h => by unfold tyFB at h; cases h
  | .str, _, _, h => by unfold tyFB at h; cases h
  | .sl _ _, _, _, h => by unfold tyFB at h; cases h
  | .st _, _, _, h => by unfold tyFB at h; cases h
end
theorem law_of_fn {P : Program} {f : Nat} {args : List DC} {x : Value} (hcall : ∀ (vs : Array Value) (w : World), (callFunc f vs).run P w = .ok (.enter f vs) w) (h : FnOK P f args (.c (.one (.v x)))) {w : World} {vs : List Value} (hg : Gd w) (hvs : DCsR w (fun _ => False) args vs) :
    Calls P f vs.toArray w fun e w' => e = .returned x ∧ Below w.heap.size w w' := by
  rcases h w (fun _ => False) vs ⟨fun _ h => h.elim, hg, fun _ h => h.elim⟩ hvs with ⟨g, hg, hc⟩ | ⟨u, hg, _⟩
  · have : g = f := by
      rw [hcall] at hg
      injection hg with h1
      injection h1 with h1
      exact h1.symm
    subst this
    refine hc.mono ?_
    rintro e w' ⟨u, rfl, hu, hb⟩
    have hu : Rep w' _ (.v x) u := hu
    cases hu
    exact ⟨rfl, hb⟩
  · rw [hcall] at hg
    injection hg with h1
    cases h1
def shInt : Sh := .int .i64
def shRatio : Sh := .st (.fc 1 shInt (.fc 1 shInt .f0))
theorem fits_ratio {ds : List D} (h : FitF (.fc 1 shInt (.fc 1 shInt .f0)) ds) : ∃ n m : Int, ds = [.v (.int .i64 n), .v (.int .i64 m)] := by
  obtain ⟨_, _, rfl, ⟨n, rfl⟩, _, _, rfl, ⟨m, rfl⟩, rfl⟩ := h
  exact ⟨n, m, rfl⟩
end Sx
end Go.Proofs.YtgdpogdgpfjnoaaGreatDoor

namespace Go.Proofs.YtgdpogdgpfjnoaaGreatDoor
open Go Go.RowKit
namespace Sx
def Ty : List (Nat × TD) := [(2, .int .i64),
  (3, .int .i64),
  (4, .bool),
  (5, .int .u8),
  (9, .sc (.v (.string "".toUTF8))),
  (12, .int .u64),
  (21, .int .i32),
  (23, .int .i64),
  (24, .st 2 [.v (.int .i64 0), .v (.int .i64 0)] [(0, 1, false), (1, 1, false)]),
  (25, .st 2 [.v (.int .i64 0), .v (.int .i64 0)] [(0, 1, false), (1, 1, false)]),
  (26, .sl 4 true [.v (.int .i64 0), .v (.int .i64 0), .v (.int .i64 0), .v (.int .i64 0)]),
  (27, .st 6 [.v (.int .i64 0), .v (.int .i64 0), .v (.int .i64 0), .v (.int .i64 0), .v (.int .i64 0), .nil 4] [(0, 1, false), (1, 1, false), (2, 1, false), (3, 2, true), (5, 1, false)]),
  (28, .st 6 [.v (.int .i64 0), .v (.int .i64 0), .v (.int .i64 0), .v (.int .i64 0), .v (.int .i64 0), .nil 4] [(0, 1, false), (1, 1, false), (2, 1, false), (3, 2, true), (5, 1, false)]),
  (30, .st 4 [.v (.int .i64 0), .v (.int .i64 0), .v (.int .i64 0), .v (.int .i64 0)] [(0, 2, true), (2, 1, false), (3, 1, false)]),
  (31, .st 4 [.v (.int .i64 0), .v (.int .i64 0), .v (.int .i64 0), .v (.int .i64 0)] [(0, 2, true), (2, 1, false), (3, 1, false)]),
  (32, .sl 6 true [.v (.int .i64 0), .v (.int .i64 0), .v (.int .i64 0), .v (.int .i64 0), .v (.int .i64 0), .nil 4]),
  (37, .sl 3 true [.v (.int .i64 0), .v (.int .i64 0), .v (.int .i64 0)]),
  (38, .st 1 [.nil 3] [(0, 1, false)]),
  (39, .st 1 [.nil 3] [(0, 1, false)]),
  (40, .st 3 [.v (.int .i64 0), .v (.int .i64 0), .nil 3] [(0, 2, true), (2, 1, true)]),
  (41, .st 3 [.v (.int .i64 0), .v (.int .i64 0), .nil 3] [(0, 2, true), (2, 1, true)]),
  (42, .st 3 [.v (.int .i64 0), .v (.int .i64 0), .v (.int .i64 0)] [(0, 1, false), (1, 1, false), (2, 1, false)]),
  (43, .st 3 [.v (.int .i64 0), .v (.int .i64 0), .v (.int .i64 0)] [(0, 1, false), (1, 1, false), (2, 1, false)]),
  (45, .sl 1 false [.v (.int .u8 0)]),
  (53, .st 7 [.v (.int .u8 0), .v (.int .i64 0), .v (.int .i64 0), .v (.int .i64 0), .v (.int .i64 0), .v (.int .i64 0), .v (.int .i64 0)] [(0, 1, false), (1, 3, true), (4, 1, false), (5, 2, true)]),
  (54, .st 7 [.v (.int .u8 0), .v (.int .i64 0), .v (.int .i64 0), .v (.int .i64 0), .v (.int .i64 0), .v (.int .i64 0), .v (.int .i64 0)] [(0, 1, false), (1, 3, true), (4, 1, false), (5, 2, true)]),
  (58, .sl 7 true [.v (.int .u8 0), .v (.int .i64 0), .v (.int .i64 0), .v (.int .i64 0), .v (.int .i64 0), .v (.int .i64 0), .v (.int .i64 0)]),
  (63, .sl 1 false [.v (.string "".toUTF8)]),
  (78, .sl 1 false [.v (.int .i64 0)]),
  (126, .int .u64),
  (127, .st 2 [.v (.int .i64 0), .v (.int .u64 0)] [(0, 1, false), (1, 1, false)]),
  (128, .st 2 [.v (.int .i64 0), .v (.int .u64 0)] [(0, 1, false), (1, 1, false)]),
  (130, .ar 2 [.v (.int .i64 0), .v (.int .i64 0)] 2 1 false),
  (131, .ar 4 [.v (.int .i64 0), .v (.int .i64 0), .v (.int .i64 0), .v (.int .i64 0)] 2 2 true),
  (157, .int .u64),
  (163, .st 2 [.v (.pointer none), .nil 1] [(0, 1, false), (1, 1, false)]),
  (164, .st 2 [.v (.pointer none), .nil 1] [(0, 1, false), (1, 1, false)]),
  (192, .sl 1 false [.v (.int .i64 0)]),
  (208, .st 3 [.v (.bool false), .v (.int .u64 0), .v (.int .u64 0)] [(0, 1, false), (1, 1, false), (2, 1, false)]),
  (209, .st 3 [.v (.bool false), .v (.int .u64 0), .v (.int .u64 0)] [(0, 1, false), (1, 1, false), (2, 1, false)]),
  (212, .int .i64),
  (219, .int .u32),
  (220, .sl 2 true [.v (.int .i64 0), .v (.int .i64 0)]),
  (236, .st 3 [.v (.bool false), .v (.int .u64 0), .v (.int .u64 0)] [(0, 1, false), (1, 1, false), (2, 1, false)]),
  (237, .st 3 [.v (.bool false), .v (.int .u64 0), .v (.int .u64 0)] [(0, 1, false), (1, 1, false), (2, 1, false)]),
  (243, .ar 24 [.v (.int .u8 0), .v (.int .u8 0), .v (.int .u8 0), .v (.int .u8 0), .v (.int .u8 0), .v (.int .u8 0), .v (.int .u8 0), .v (.int .u8 0), .v (.int .u8 0), .v (.int .u8 0), .v (.int .u8 0), .v (.int .u8 0), .v (.int .u8 0), .v (.int .u8 0), .v (.int .u8 0), .v (.int .u8 0), .v (.int .u8 0), .v (.int .u8 0), .v (.int .u8 0), .v (.int .u8 0), .v (.int .u8 0), .v (.int .u8 0), .v (.int .u8 0), .v (.int .u8 0)] 24 1 false),
  (251, .int .i64),
  (261, .int .u64),
  (290, .ar 20 [.v (.int .u64 0), .v (.int .u64 0), .v (.int .u64 0), .v (.int .u64 0), .v (.int .u64 0), .v (.int .u64 0), .v (.int .u64 0), .v (.int .u64 0), .v (.int .u64 0), .v (.int .u64 0), .v (.int .u64 0), .v (.int .u64 0), .v (.int .u64 0), .v (.int .u64 0), .v (.int .u64 0), .v (.int .u64 0), .v (.int .u64 0), .v (.int .u64 0), .v (.int .u64 0), .v (.int .u64 0)] 20 1 false),
  (306, .st 2 [.v (.int .u8 0), .v (.int .u8 0)] [(0, 1, false), (1, 1, false)]),
  (307, .st 2 [.v (.int .u8 0), .v (.int .u8 0)] [(0, 1, false), (1, 1, false)]),
  (308, .ar 32 [.v (.int .u8 0), .v (.int .u8 0), .v (.int .u8 0), .v (.int .u8 0), .v (.int .u8 0), .v (.int .u8 0), .v (.int .u8 0), .v (.int .u8 0), .v (.int .u8 0), .v (.int .u8 0), .v (.int .u8 0), .v (.int .u8 0), .v (.int .u8 0), .v (.int .u8 0), .v (.int .u8 0), .v (.int .u8 0), .v (.int .u8 0), .v (.int .u8 0), .v (.int .u8 0), .v (.int .u8 0), .v (.int .u8 0), .v (.int .u8 0), .v (.int .u8 0), .v (.int .u8 0), .v (.int .u8 0), .v (.int .u8 0), .v (.int .u8 0), .v (.int .u8 0), .v (.int .u8 0), .v (.int .u8 0), .v (.int .u8 0), .v (.int .u8 0)] 16 2 true),
  (312, .st 1 [.v (.string "".toUTF8)] [(0, 1, false)]),
  (313, .st 1 [.v (.string "".toUTF8)] [(0, 1, false)]),
  (320, .ar 32 [.v (.int .u8 0), .v (.int .u8 0), .v (.int .u8 0), .v (.int .u8 0), .v (.int .u8 0), .v (.int .u8 0), .v (.int .u8 0), .v (.int .u8 0), .v (.int .u8 0), .v (.int .u8 0), .v (.int .u8 0), .v (.int .u8 0), .v (.int .u8 0), .v (.int .u8 0), .v (.int .u8 0), .v (.int .u8 0), .v (.int .u8 0), .v (.int .u8 0), .v (.int .u8 0), .v (.int .u8 0), .v (.int .u8 0), .v (.int .u8 0), .v (.int .u8 0), .v (.int .u8 0), .v (.int .u8 0), .v (.int .u8 0), .v (.int .u8 0), .v (.int .u8 0), .v (.int .u8 0), .v (.int .u8 0), .v (.int .u8 0), .v (.int .u8 0)] 32 1 false),
  (321, .ar 64 [.v (.int .u8 0), .v (.int .u8 0), .v (.int .u8 0), .v (.int .u8 0), .v (.int .u8 0), .v (.int .u8 0), .v (.int .u8 0), .v (.int .u8 0), .v (.int .u8 0), .v (.int .u8 0), .v (.int .u8 0), .v (.int .u8 0), .v (.int .u8 0), .v (.int .u8 0), .v (.int .u8 0), .v (.int .u8 0), .v (.int .u8 0), .v (.int .u8 0), .v (.int .u8 0), .v (.int .u8 0), .v (.int .u8 0), .v (.int .u8 0), .v (.int .u8 0), .v (.int .u8 0), .v (.int .u8 0), .v (.int .u8 0), .v (.int .u8 0), .v (.int .u8 0), .v (.int .u8 0), .v (.int .u8 0), .v (.int .u8 0), .v (.int .u8 0), .v (.int .u8 0), .v (.int .u8 0), .v (.int .u8 0), .v (.int .u8 0), .v (.int .u8 0), .v (.int .u8 0), .v (.int .u8 0), .v (.int .u8 0), .v (.int .u8 0), .v (.int .u8 0), .v (.int .u8 0), .v (.int .u8 0), .v (.int .u8 0), .v (.int .u8 0), .v (.int .u8 0), .v (.int .u8 0), .v (.int .u8 0), .v (.int .u8 0), .v (.int .u8 0), .v (.int .u8 0), .v (.int .u8 0), .v (.int .u8 0), .v (.int .u8 0), .v (.int .u8 0), .v (.int .u8 0), .v (.int .u8 0), .v (.int .u8 0), .v (.int .u8 0), .v (.int .u8 0), .v (.int .u8 0), .v (.int .u8 0), .v (.int .u8 0)] 64 1 false),
  (325, .st 4 [.v (.pointer none), .v (.pointer none), .v (.pointer none), .v (.string "".toUTF8)] [(0, 1, false), (1, 1, false), (2, 1, false), (3, 1, false)])]
theorem ty_all : TysOK Tryz.prog Ty := ⟨⟨Tryz.sizeOf2, Tryz.isAgg2, ⟨_, Tryz.zeroValue2, fun _ _ => ⟨.v _ rfl (wfB_iff rfl), trivial⟩⟩, Tryz.underlying2⟩,
  ⟨Tryz.sizeOf3, Tryz.isAgg3, ⟨_, Tryz.zeroValue3, fun _ _ => ⟨.v _ rfl (wfB_iff rfl), trivial⟩⟩, Tryz.underlying3⟩,
  ⟨Tryz.sizeOf4, Tryz.isAgg4, ⟨_, Tryz.zeroValue4, fun _ _ => ⟨.v _ rfl (wfB_iff rfl), trivial⟩⟩, Tryz.underlying4⟩,
  ⟨Tryz.sizeOf5, Tryz.isAgg5, ⟨_, Tryz.zeroValue5, fun _ _ => ⟨.v _ rfl (wfB_iff rfl), trivial⟩⟩, Tryz.underlying5⟩,
  ⟨Tryz.sizeOf9, Tryz.isAgg9, ⟨_, Tryz.zeroValue9, fun _ _ => ⟨.v _ rfl (wfB_iff rfl), trivial⟩⟩, trivial⟩,
  ⟨Tryz.sizeOf12, Tryz.isAgg12, ⟨_, Tryz.zeroValue12, fun _ _ => ⟨.v _ rfl (wfB_iff rfl), trivial⟩⟩, Tryz.underlying12⟩,
  ⟨Tryz.sizeOf21, Tryz.isAgg21, ⟨_, Tryz.zeroValue21, fun _ _ => ⟨.v _ rfl (wfB_iff rfl), trivial⟩⟩, Tryz.underlying21⟩,
  ⟨Tryz.sizeOf23, Tryz.isAgg23, ⟨_, Tryz.zeroValue23, fun _ _ => ⟨.v _ rfl (wfB_iff rfl), trivial⟩⟩, Tryz.underlying23⟩,
  ⟨Tryz.sizeOf24, Tryz.isAgg24, ⟨_, Tryz.zeroValue24, fun _ _ => ⟨.v _ rfl (wfB_iff rfl), .v _ rfl (wfB_iff rfl), trivial⟩⟩, st_ty Tryz.underlying24 rfl ⟨rfl, Tryz.sizeOf2, Tryz.isAgg2, rfl, Tryz.sizeOf2, Tryz.isAgg2, trivial⟩⟩,
  ⟨Tryz.sizeOf25, Tryz.isAgg25, ⟨_, Tryz.zeroValue25, fun _ _ => ⟨.v _ rfl (wfB_iff rfl), .v _ rfl (wfB_iff rfl), trivial⟩⟩, st_ty Tryz.underlying25 rfl ⟨rfl, Tryz.sizeOf2, Tryz.isAgg2, rfl, Tryz.sizeOf2, Tryz.isAgg2, trivial⟩⟩,
  ⟨Tryz.sizeOf26, Tryz.isAgg26, ⟨_, Tryz.zeroValue26, fun _ _ => ⟨.nl _, trivial⟩⟩, sl_ty Tryz.underlying26 Tryz.sizeOf31 Tryz.isAgg31 Tryz.zeroValue31 rfl (show Tryz.prog.info? 31 = some Tryz.t31 by kernel_rfl) rfl rfl rfl (fun _ _ => ⟨.v _ rfl (wfB_iff rfl), .v _ rfl (wfB_iff rfl), .v _ rfl (wfB_iff rfl), .v _ rfl (wfB_iff rfl), trivial⟩) rfl⟩,
  ⟨Tryz.sizeOf27, Tryz.isAgg27, ⟨_, Tryz.zeroValue27, fun _ _ => ⟨.v _ rfl (wfB_iff rfl), .v _ rfl (wfB_iff rfl), .v _ rfl (wfB_iff rfl), .v _ rfl (wfB_iff rfl), .v _ rfl (wfB_iff rfl), .nl _, trivial⟩⟩, st_ty Tryz.underlying27 rfl ⟨rfl, Tryz.sizeOf23, Tryz.isAgg23, rfl, Tryz.sizeOf3, Tryz.isAgg3, rfl, Tryz.sizeOf3, Tryz.isAgg3, rfl, Tryz.sizeOf25, Tryz.isAgg25, rfl, Tryz.sizeOf26, Tryz.isAgg26, trivial⟩⟩,
  ⟨Tryz.sizeOf28, Tryz.isAgg28, ⟨_, Tryz.zeroValue28, fun _ _ => ⟨.v _ rfl (wfB_iff rfl), .v _ rfl (wfB_iff rfl), .v _ rfl (wfB_iff rfl), .v _ rfl (wfB_iff rfl), .v _ rfl (wfB_iff rfl), .nl _, trivial⟩⟩, st_ty Tryz.underlying28 rfl ⟨rfl, Tryz.sizeOf23, Tryz.isAgg23, rfl, Tryz.sizeOf3, Tryz.isAgg3, rfl, Tryz.sizeOf3, Tryz.isAgg3, rfl, Tryz.sizeOf25, Tryz.isAgg25, rfl, Tryz.sizeOf26, Tryz.isAgg26, trivial⟩⟩,
  ⟨Tryz.sizeOf30, Tryz.isAgg30, ⟨_, Tryz.zeroValue30, fun _ _ => ⟨.v _ rfl (wfB_iff rfl), .v _ rfl (wfB_iff rfl), .v _ rfl (wfB_iff rfl), .v _ rfl (wfB_iff rfl), trivial⟩⟩, st_ty Tryz.underlying30 rfl ⟨rfl, Tryz.sizeOf25, Tryz.isAgg25, rfl, Tryz.sizeOf3, Tryz.isAgg3, rfl, Tryz.sizeOf3, Tryz.isAgg3, trivial⟩⟩,
  ⟨Tryz.sizeOf31, Tryz.isAgg31, ⟨_, Tryz.zeroValue31, fun _ _ => ⟨.v _ rfl (wfB_iff rfl), .v _ rfl (wfB_iff rfl), .v _ rfl (wfB_iff rfl), .v _ rfl (wfB_iff rfl), trivial⟩⟩, st_ty Tryz.underlying31 rfl ⟨rfl, Tryz.sizeOf25, Tryz.isAgg25, rfl, Tryz.sizeOf3, Tryz.isAgg3, rfl, Tryz.sizeOf3, Tryz.isAgg3, trivial⟩⟩,
  ⟨Tryz.sizeOf32, Tryz.isAgg32, ⟨_, Tryz.zeroValue32, fun _ _ => ⟨.nl _, trivial⟩⟩, sl_ty Tryz.underlying32 Tryz.sizeOf28 Tryz.isAgg28 Tryz.zeroValue28 rfl (show Tryz.prog.info? 28 = some Tryz.t28 by kernel_rfl) rfl rfl rfl (fun _ _ => ⟨.v _ rfl (wfB_iff rfl), .v _ rfl (wfB_iff rfl), .v _ rfl (wfB_iff rfl), .v _ rfl (wfB_iff rfl), .v _ rfl (wfB_iff rfl), .nl _, trivial⟩) rfl⟩,
  ⟨Tryz.sizeOf37, Tryz.isAgg37, ⟨_, Tryz.zeroValue37, fun _ _ => ⟨.nl _, trivial⟩⟩, sl_ty Tryz.underlying37 Tryz.sizeOf43 Tryz.isAgg43 Tryz.zeroValue43 rfl (show Tryz.prog.info? 43 = some Tryz.t43 by kernel_rfl) rfl rfl rfl (fun _ _ => ⟨.v _ rfl (wfB_iff rfl), .v _ rfl (wfB_iff rfl), .v _ rfl (wfB_iff rfl), trivial⟩) rfl⟩,
  ⟨Tryz.sizeOf38, Tryz.isAgg38, ⟨_, Tryz.zeroValue38, fun _ _ => ⟨.nl _, trivial⟩⟩, st_ty Tryz.underlying38 rfl ⟨rfl, Tryz.sizeOf37, Tryz.isAgg37, trivial⟩⟩,
  ⟨Tryz.sizeOf39, Tryz.isAgg39, ⟨_, Tryz.zeroValue39, fun _ _ => ⟨.nl _, trivial⟩⟩, st_ty Tryz.underlying39 rfl ⟨rfl, Tryz.sizeOf37, Tryz.isAgg37, trivial⟩⟩,
  ⟨Tryz.sizeOf40, Tryz.isAgg40, ⟨_, Tryz.zeroValue40, fun _ _ => ⟨.v _ rfl (wfB_iff rfl), .v _ rfl (wfB_iff rfl), .nl _, trivial⟩⟩, st_ty Tryz.underlying40 rfl ⟨rfl, Tryz.sizeOf25, Tryz.isAgg25, rfl, Tryz.sizeOf39, Tryz.isAgg39, trivial⟩⟩,
  ⟨Tryz.sizeOf41, Tryz.isAgg41, ⟨_, Tryz.zeroValue41, fun _ _ => ⟨.v _ rfl (wfB_iff rfl), .v _ rfl (wfB_iff rfl), .nl _, trivial⟩⟩, st_ty Tryz.underlying41 rfl ⟨rfl, Tryz.sizeOf25, Tryz.isAgg25, rfl, Tryz.sizeOf39, Tryz.isAgg39, trivial⟩⟩,
  ⟨Tryz.sizeOf42, Tryz.isAgg42, ⟨_, Tryz.zeroValue42, fun _ _ => ⟨.v _ rfl (wfB_iff rfl), .v _ rfl (wfB_iff rfl), .v _ rfl (wfB_iff rfl), trivial⟩⟩, st_ty Tryz.underlying42 rfl ⟨rfl, Tryz.sizeOf3, Tryz.isAgg3, rfl, Tryz.sizeOf2, Tryz.isAgg2, rfl, Tryz.sizeOf2, Tryz.isAgg2, trivial⟩⟩,
  ⟨Tryz.sizeOf43, Tryz.isAgg43, ⟨_, Tryz.zeroValue43, fun _ _ => ⟨.v _ rfl (wfB_iff rfl), .v _ rfl (wfB_iff rfl), .v _ rfl (wfB_iff rfl), trivial⟩⟩, st_ty Tryz.underlying43 rfl ⟨rfl, Tryz.sizeOf3, Tryz.isAgg3, rfl, Tryz.sizeOf2, Tryz.isAgg2, rfl, Tryz.sizeOf2, Tryz.isAgg2, trivial⟩⟩,
  ⟨Tryz.sizeOf45, Tryz.isAgg45, ⟨_, Tryz.zeroValue45, fun _ _ => ⟨.nl _, trivial⟩⟩, sl_ty Tryz.underlying45 Tryz.sizeOf5 Tryz.isAgg5 Tryz.zeroValue5 rfl (show Tryz.prog.info? 5 = some Tryz.t5 by kernel_rfl) rfl rfl rfl (fun _ _ => ⟨.v _ rfl (wfB_iff rfl), trivial⟩) rfl⟩,
  ⟨Tryz.sizeOf53, Tryz.isAgg53, ⟨_, Tryz.zeroValue53, fun _ _ => ⟨.v _ rfl (wfB_iff rfl), .v _ rfl (wfB_iff rfl), .v _ rfl (wfB_iff rfl), .v _ rfl (wfB_iff rfl), .v _ rfl (wfB_iff rfl), .v _ rfl (wfB_iff rfl), .v _ rfl (wfB_iff rfl), trivial⟩⟩, st_ty Tryz.underlying53 rfl ⟨rfl, Tryz.sizeOf5, Tryz.isAgg5, rfl, Tryz.sizeOf43, Tryz.isAgg43, rfl, Tryz.sizeOf3, Tryz.isAgg3, rfl, Tryz.sizeOf25, Tryz.isAgg25, trivial⟩⟩,
  ⟨Tryz.sizeOf54, Tryz.isAgg54, ⟨_, Tryz.zeroValue54, fun _ _ => ⟨.v _ rfl (wfB_iff rfl), .v _ rfl (wfB_iff rfl), .v _ rfl (wfB_iff rfl), .v _ rfl (wfB_iff rfl), .v _ rfl (wfB_iff rfl), .v _ rfl (wfB_iff rfl), .v _ rfl (wfB_iff rfl), trivial⟩⟩, st_ty Tryz.underlying54 rfl ⟨rfl, Tryz.sizeOf5, Tryz.isAgg5, rfl, Tryz.sizeOf43, Tryz.isAgg43, rfl, Tryz.sizeOf3, Tryz.isAgg3, rfl, Tryz.sizeOf25, Tryz.isAgg25, trivial⟩⟩,
  ⟨Tryz.sizeOf58, Tryz.isAgg58, ⟨_, Tryz.zeroValue58, fun _ _ => ⟨.nl _, trivial⟩⟩, sl_ty Tryz.underlying58 Tryz.sizeOf54 Tryz.isAgg54 Tryz.zeroValue54 rfl (show Tryz.prog.info? 54 = some Tryz.t54 by kernel_rfl) rfl rfl rfl (fun _ _ => ⟨.v _ rfl (wfB_iff rfl), .v _ rfl (wfB_iff rfl), .v _ rfl (wfB_iff rfl), .v _ rfl (wfB_iff rfl), .v _ rfl (wfB_iff rfl), .v _ rfl (wfB_iff rfl), .v _ rfl (wfB_iff rfl), trivial⟩) rfl⟩,
  ⟨Tryz.sizeOf63, Tryz.isAgg63, ⟨_, Tryz.zeroValue63, fun _ _ => ⟨.nl _, trivial⟩⟩, sl_ty Tryz.underlying63 Tryz.sizeOf9 Tryz.isAgg9 Tryz.zeroValue9 rfl (show Tryz.prog.info? 9 = some Tryz.t9 by kernel_rfl) rfl rfl rfl (fun _ _ => ⟨.v _ rfl (wfB_iff rfl), trivial⟩) rfl⟩,
  ⟨Tryz.sizeOf78, Tryz.isAgg78, ⟨_, Tryz.zeroValue78, fun _ _ => ⟨.nl _, trivial⟩⟩, sl_ty Tryz.underlying78 Tryz.sizeOf3 Tryz.isAgg3 Tryz.zeroValue3 rfl (show Tryz.prog.info? 3 = some Tryz.t3 by kernel_rfl) rfl rfl rfl (fun _ _ => ⟨.v _ rfl (wfB_iff rfl), trivial⟩) rfl⟩,
  ⟨Tryz.sizeOf126, Tryz.isAgg126, ⟨_, Tryz.zeroValue126, fun _ _ => ⟨.v _ rfl (wfB_iff rfl), trivial⟩⟩, Tryz.underlying126⟩,
  ⟨Tryz.sizeOf127, Tryz.isAgg127, ⟨_, Tryz.zeroValue127, fun _ _ => ⟨.v _ rfl (wfB_iff rfl), .v _ rfl (wfB_iff rfl), trivial⟩⟩, st_ty Tryz.underlying127 rfl ⟨rfl, Tryz.sizeOf2, Tryz.isAgg2, rfl, Tryz.sizeOf126, Tryz.isAgg126, trivial⟩⟩,
  ⟨Tryz.sizeOf128, Tryz.isAgg128, ⟨_, Tryz.zeroValue128, fun _ _ => ⟨.v _ rfl (wfB_iff rfl), .v _ rfl (wfB_iff rfl), trivial⟩⟩, st_ty Tryz.underlying128 rfl ⟨rfl, Tryz.sizeOf2, Tryz.isAgg2, rfl, Tryz.sizeOf126, Tryz.isAgg126, trivial⟩⟩,
  ⟨Tryz.sizeOf130, Tryz.isAgg130, ⟨_, Tryz.zeroValue130, fun _ _ => ⟨.v _ rfl (wfB_iff rfl), .v _ rfl (wfB_iff rfl), trivial⟩⟩, ⟨_, Tryz.underlying130, Tryz.sizeOf2, Tryz.isAgg2⟩⟩,
  ⟨Tryz.sizeOf131, Tryz.isAgg131, ⟨_, Tryz.zeroValue131, fun _ _ => ⟨.v _ rfl (wfB_iff rfl), .v _ rfl (wfB_iff rfl), .v _ rfl (wfB_iff rfl), .v _ rfl (wfB_iff rfl), trivial⟩⟩, ⟨_, Tryz.underlying131, Tryz.sizeOf130, Tryz.isAgg130⟩⟩,
  ⟨Tryz.sizeOf157, Tryz.isAgg157, ⟨_, Tryz.zeroValue157, fun _ _ => ⟨.v _ rfl (wfB_iff rfl), trivial⟩⟩, Tryz.underlying157⟩,
  ⟨Tryz.sizeOf163, Tryz.isAgg163, ⟨_, Tryz.zeroValue163, fun _ _ => ⟨.v _ rfl (wfB_iff rfl), .nl _, trivial⟩⟩, st_ty Tryz.underlying163 rfl ⟨rfl, Tryz.sizeOf162, Tryz.isAgg162, rfl, Tryz.sizeOf45, Tryz.isAgg45, trivial⟩⟩,
  ⟨Tryz.sizeOf164, Tryz.isAgg164, ⟨_, Tryz.zeroValue164, fun _ _ => ⟨.v _ rfl (wfB_iff rfl), .nl _, trivial⟩⟩, st_ty Tryz.underlying164 rfl ⟨rfl, Tryz.sizeOf162, Tryz.isAgg162, rfl, Tryz.sizeOf45, Tryz.isAgg45, trivial⟩⟩,
  ⟨Tryz.sizeOf192, Tryz.isAgg192, ⟨_, Tryz.zeroValue192, fun _ _ => ⟨.nl _, trivial⟩⟩, sl_ty Tryz.underlying192 Tryz.sizeOf23 Tryz.isAgg23 Tryz.zeroValue23 rfl (show Tryz.prog.info? 23 = some Tryz.t23 by kernel_rfl) rfl rfl rfl (fun _ _ => ⟨.v _ rfl (wfB_iff rfl), trivial⟩) rfl⟩,
  ⟨Tryz.sizeOf208, Tryz.isAgg208, ⟨_, Tryz.zeroValue208, fun _ _ => ⟨.v _ rfl (wfB_iff rfl), .v _ rfl (wfB_iff rfl), .v _ rfl (wfB_iff rfl), trivial⟩⟩, st_ty Tryz.underlying208 rfl ⟨rfl, Tryz.sizeOf4, Tryz.isAgg4, rfl, Tryz.sizeOf126, Tryz.isAgg126, rfl, Tryz.sizeOf126, Tryz.isAgg126, trivial⟩⟩,
  ⟨Tryz.sizeOf209, Tryz.isAgg209, ⟨_, Tryz.zeroValue209, fun _ _ => ⟨.v _ rfl (wfB_iff rfl), .v _ rfl (wfB_iff rfl), .v _ rfl (wfB_iff rfl), trivial⟩⟩, st_ty Tryz.underlying209 rfl ⟨rfl, Tryz.sizeOf4, Tryz.isAgg4, rfl, Tryz.sizeOf126, Tryz.isAgg126, rfl, Tryz.sizeOf126, Tryz.isAgg126, trivial⟩⟩,
  ⟨Tryz.sizeOf212, Tryz.isAgg212, ⟨_, Tryz.zeroValue212, fun _ _ => ⟨.v _ rfl (wfB_iff rfl), trivial⟩⟩, Tryz.underlying212⟩,
  ⟨Tryz.sizeOf219, Tryz.isAgg219, ⟨_, Tryz.zeroValue219, fun _ _ => ⟨.v _ rfl (wfB_iff rfl), trivial⟩⟩, Tryz.underlying219⟩,
  ⟨Tryz.sizeOf220, Tryz.isAgg220, ⟨_, Tryz.zeroValue220, fun _ _ => ⟨.nl _, trivial⟩⟩, sl_ty Tryz.underlying220 Tryz.sizeOf25 Tryz.isAgg25 Tryz.zeroValue25 rfl (show Tryz.prog.info? 25 = some Tryz.t25 by kernel_rfl) rfl rfl rfl (fun _ _ => ⟨.v _ rfl (wfB_iff rfl), .v _ rfl (wfB_iff rfl), trivial⟩) rfl⟩,
  ⟨Tryz.sizeOf236, Tryz.isAgg236, ⟨_, Tryz.zeroValue236, fun _ _ => ⟨.v _ rfl (wfB_iff rfl), .v _ rfl (wfB_iff rfl), .v _ rfl (wfB_iff rfl), trivial⟩⟩, st_ty Tryz.underlying236 rfl ⟨rfl, Tryz.sizeOf4, Tryz.isAgg4, rfl, Tryz.sizeOf126, Tryz.isAgg126, rfl, Tryz.sizeOf126, Tryz.isAgg126, trivial⟩⟩,
  ⟨Tryz.sizeOf237, Tryz.isAgg237, ⟨_, Tryz.zeroValue237, fun _ _ => ⟨.v _ rfl (wfB_iff rfl), .v _ rfl (wfB_iff rfl), .v _ rfl (wfB_iff rfl), trivial⟩⟩, st_ty Tryz.underlying237 rfl ⟨rfl, Tryz.sizeOf4, Tryz.isAgg4, rfl, Tryz.sizeOf126, Tryz.isAgg126, rfl, Tryz.sizeOf126, Tryz.isAgg126, trivial⟩⟩,
  ⟨Tryz.sizeOf243, Tryz.isAgg243, ⟨_, Tryz.zeroValue243, fun _ _ => ⟨.v _ rfl (wfB_iff rfl), .v _ rfl (wfB_iff rfl), .v _ rfl (wfB_iff rfl), .v _ rfl (wfB_iff rfl), .v _ rfl (wfB_iff rfl), .v _ rfl (wfB_iff rfl), .v _ rfl (wfB_iff rfl), .v _ rfl (wfB_iff rfl), .v _ rfl (wfB_iff rfl), .v _ rfl (wfB_iff rfl), .v _ rfl (wfB_iff rfl), .v _ rfl (wfB_iff rfl), .v _ rfl (wfB_iff rfl), .v _ rfl (wfB_iff rfl), .v _ rfl (wfB_iff rfl), .v _ rfl (wfB_iff rfl), .v _ rfl (wfB_iff rfl), .v _ rfl (wfB_iff rfl), .v _ rfl (wfB_iff rfl), .v _ rfl (wfB_iff rfl), .v _ rfl (wfB_iff rfl), .v _ rfl (wfB_iff rfl), .v _ rfl (wfB_iff rfl), .v _ rfl (wfB_iff rfl), trivial⟩⟩, ⟨_, Tryz.underlying243, Tryz.sizeOf5, Tryz.isAgg5⟩⟩,
  ⟨Tryz.sizeOf251, Tryz.isAgg251, ⟨_, Tryz.zeroValue251, fun _ _ => ⟨.v _ rfl (wfB_iff rfl), trivial⟩⟩, Tryz.underlying251⟩,
  ⟨Tryz.sizeOf261, Tryz.isAgg261, ⟨_, Tryz.zeroValue261, fun _ _ => ⟨.v _ rfl (wfB_iff rfl), trivial⟩⟩, Tryz.underlying261⟩,
  ⟨Tryz.sizeOf290, Tryz.isAgg290, ⟨_, Tryz.zeroValue290, fun _ _ => ⟨.v _ rfl (wfB_iff rfl), .v _ rfl (wfB_iff rfl), .v _ rfl (wfB_iff rfl), .v _ rfl (wfB_iff rfl), .v _ rfl (wfB_iff rfl), .v _ rfl (wfB_iff rfl), .v _ rfl (wfB_iff rfl), .v _ rfl (wfB_iff rfl), .v _ rfl (wfB_iff rfl), .v _ rfl (wfB_iff rfl), .v _ rfl (wfB_iff rfl), .v _ rfl (wfB_iff rfl), .v _ rfl (wfB_iff rfl), .v _ rfl (wfB_iff rfl), .v _ rfl (wfB_iff rfl), .v _ rfl (wfB_iff rfl), .v _ rfl (wfB_iff rfl), .v _ rfl (wfB_iff rfl), .v _ rfl (wfB_iff rfl), .v _ rfl (wfB_iff rfl), trivial⟩⟩, ⟨_, Tryz.underlying290, Tryz.sizeOf126, Tryz.isAgg126⟩⟩,
  ⟨Tryz.sizeOf306, Tryz.isAgg306, ⟨_, Tryz.zeroValue306, fun _ _ => ⟨.v _ rfl (wfB_iff rfl), .v _ rfl (wfB_iff rfl), trivial⟩⟩, st_ty Tryz.underlying306 rfl ⟨rfl, Tryz.sizeOf5, Tryz.isAgg5, rfl, Tryz.sizeOf5, Tryz.isAgg5, trivial⟩⟩,
  ⟨Tryz.sizeOf307, Tryz.isAgg307, ⟨_, Tryz.zeroValue307, fun _ _ => ⟨.v _ rfl (wfB_iff rfl), .v _ rfl (wfB_iff rfl), trivial⟩⟩, st_ty Tryz.underlying307 rfl ⟨rfl, Tryz.sizeOf5, Tryz.isAgg5, rfl, Tryz.sizeOf5, Tryz.isAgg5, trivial⟩⟩,
  ⟨Tryz.sizeOf308, Tryz.isAgg308, ⟨_, Tryz.zeroValue308, fun _ _ => ⟨.v _ rfl (wfB_iff rfl), .v _ rfl (wfB_iff rfl), .v _ rfl (wfB_iff rfl), .v _ rfl (wfB_iff rfl), .v _ rfl (wfB_iff rfl), .v _ rfl (wfB_iff rfl), .v _ rfl (wfB_iff rfl), .v _ rfl (wfB_iff rfl), .v _ rfl (wfB_iff rfl), .v _ rfl (wfB_iff rfl), .v _ rfl (wfB_iff rfl), .v _ rfl (wfB_iff rfl), .v _ rfl (wfB_iff rfl), .v _ rfl (wfB_iff rfl), .v _ rfl (wfB_iff rfl), .v _ rfl (wfB_iff rfl), .v _ rfl (wfB_iff rfl), .v _ rfl (wfB_iff rfl), .v _ rfl (wfB_iff rfl), .v _ rfl (wfB_iff rfl), .v _ rfl (wfB_iff rfl), .v _ rfl (wfB_iff rfl), .v _ rfl (wfB_iff rfl), .v _ rfl (wfB_iff rfl), .v _ rfl (wfB_iff rfl), .v _ rfl (wfB_iff rfl), .v _ rfl (wfB_iff rfl), .v _ rfl (wfB_iff rfl), .v _ rfl (wfB_iff rfl), .v _ rfl (wfB_iff rfl), .v _ rfl (wfB_iff rfl), .v _ rfl (wfB_iff rfl), trivial⟩⟩, ⟨_, Tryz.underlying308, Tryz.sizeOf307, Tryz.isAgg307⟩⟩,
  ⟨Tryz.sizeOf312, Tryz.isAgg312, ⟨_, Tryz.zeroValue312, fun _ _ => ⟨.v _ rfl (wfB_iff rfl), trivial⟩⟩, st_ty Tryz.underlying312 rfl ⟨rfl, Tryz.sizeOf9, Tryz.isAgg9, trivial⟩⟩,
  ⟨Tryz.sizeOf313, Tryz.isAgg313, ⟨_, Tryz.zeroValue313, fun _ _ => ⟨.v _ rfl (wfB_iff rfl), trivial⟩⟩, st_ty Tryz.underlying313 rfl ⟨rfl, Tryz.sizeOf9, Tryz.isAgg9, trivial⟩⟩,
  ⟨Tryz.sizeOf320, Tryz.isAgg320, ⟨_, Tryz.zeroValue320, fun _ _ => ⟨.v _ rfl (wfB_iff rfl), .v _ rfl (wfB_iff rfl), .v _ rfl (wfB_iff rfl), .v _ rfl (wfB_iff rfl), .v _ rfl (wfB_iff rfl), .v _ rfl (wfB_iff rfl), .v _ rfl (wfB_iff rfl), .v _ rfl (wfB_iff rfl), .v _ rfl (wfB_iff rfl), .v _ rfl (wfB_iff rfl), .v _ rfl (wfB_iff rfl), .v _ rfl (wfB_iff rfl), .v _ rfl (wfB_iff rfl), .v _ rfl (wfB_iff rfl), .v _ rfl (wfB_iff rfl), .v _ rfl (wfB_iff rfl), .v _ rfl (wfB_iff rfl), .v _ rfl (wfB_iff rfl), .v _ rfl (wfB_iff rfl), .v _ rfl (wfB_iff rfl), .v _ rfl (wfB_iff rfl), .v _ rfl (wfB_iff rfl), .v _ rfl (wfB_iff rfl), .v _ rfl (wfB_iff rfl), .v _ rfl (wfB_iff rfl), .v _ rfl (wfB_iff rfl), .v _ rfl (wfB_iff rfl), .v _ rfl (wfB_iff rfl), .v _ rfl (wfB_iff rfl), .v _ rfl (wfB_iff rfl), .v _ rfl (wfB_iff rfl), .v _ rfl (wfB_iff rfl), trivial⟩⟩, ⟨_, Tryz.underlying320, Tryz.sizeOf5, Tryz.isAgg5⟩⟩,
  ⟨Tryz.sizeOf321, Tryz.isAgg321, ⟨_, Tryz.zeroValue321, fun _ _ => ⟨.v _ rfl (wfB_iff rfl), .v _ rfl (wfB_iff rfl), .v _ rfl (wfB_iff rfl), .v _ rfl (wfB_iff rfl), .v _ rfl (wfB_iff rfl), .v _ rfl (wfB_iff rfl), .v _ rfl (wfB_iff rfl), .v _ rfl (wfB_iff rfl), .v _ rfl (wfB_iff rfl), .v _ rfl (wfB_iff rfl), .v _ rfl (wfB_iff rfl), .v _ rfl (wfB_iff rfl), .v _ rfl (wfB_iff rfl), .v _ rfl (wfB_iff rfl), .v _ rfl (wfB_iff rfl), .v _ rfl (wfB_iff rfl), .v _ rfl (wfB_iff rfl), .v _ rfl (wfB_iff rfl), .v _ rfl (wfB_iff rfl), .v _ rfl (wfB_iff rfl), .v _ rfl (wfB_iff rfl), .v _ rfl (wfB_iff rfl), .v _ rfl (wfB_iff rfl), .v _ rfl (wfB_iff rfl), .v _ rfl (wfB_iff rfl), .v _ rfl (wfB_iff rfl), .v _ rfl (wfB_iff rfl), .v _ rfl (wfB_iff rfl), .v _ rfl (wfB_iff rfl), .v _ rfl (wfB_iff rfl), .v _ rfl (wfB_iff rfl), .v _ rfl (wfB_iff rfl), .v _ rfl (wfB_iff rfl), .v _ rfl (wfB_iff rfl), .v _ rfl (wfB_iff rfl), .v _ rfl (wfB_iff rfl), .v _ rfl (wfB_iff rfl), .v _ rfl (wfB_iff rfl), .v _ rfl (wfB_iff rfl), .v _ rfl (wfB_iff rfl), .v _ rfl (wfB_iff rfl), .v _ rfl (wfB_iff rfl), .v _ rfl (wfB_iff rfl), .v _ rfl (wfB_iff rfl), .v _ rfl (wfB_iff rfl), .v _ rfl (wfB_iff rfl), .v _ rfl (wfB_iff rfl), .v _ rfl (wfB_iff rfl), .v _ rfl (wfB_iff rfl), .v _ rfl (wfB_iff rfl), .v _ rfl (wfB_iff rfl), .v _ rfl (wfB_iff rfl), .v _ rfl (wfB_iff rfl), .v _ rfl (wfB_iff rfl), .v _ rfl (wfB_iff rfl), .v _ rfl (wfB_iff rfl), .v _ rfl (wfB_iff rfl), .v _ rfl (wfB_iff rfl), .v _ rfl (wfB_iff rfl), .v _ rfl (wfB_iff rfl), .v _ rfl (wfB_iff rfl), .v _ rfl (wfB_iff rfl), .v _ rfl (wfB_iff rfl), .v _ rfl (wfB_iff rfl), trivial⟩⟩, ⟨_, Tryz.underlying321, Tryz.sizeOf5, Tryz.isAgg5⟩⟩,
  ⟨Tryz.sizeOf325, Tryz.isAgg325, ⟨_, Tryz.zeroValue325, fun _ _ => ⟨.v _ rfl (wfB_iff rfl), .v _ rfl (wfB_iff rfl), .v _ rfl (wfB_iff rfl), .v _ rfl (wfB_iff rfl), trivial⟩⟩, st_ty Tryz.underlying325 rfl ⟨rfl, Tryz.sizeOf17, Tryz.isAgg17, rfl, Tryz.sizeOf17, Tryz.isAgg17, rfl, Tryz.sizeOf17, Tryz.isAgg17, rfl, Tryz.sizeOf9, Tryz.isAgg9, trivial⟩⟩, trivial⟩
theorem ty_okK (K mu co me : List Nat) : ΓOK Tryz.prog ⟨Ty, K, mu, co, me, false⟩ := tys_ok ty_all
theorem ty_okD : ΓOK Tryz.prog ⟨Ty, [], [], [], [], true⟩ := tys_ok ty_all
theorem ty_ok : ΓOK Tryz.prog ⟨Ty, [], [], [], [], false⟩ := tys_ok ty_all
theorem eqv25 (a0 b0 : Int) (a1 b1 : Int) (x y : Operand) (w : World) : (do eqGuard .eql 25 x y (.agg #[.int .i64 a0, .int .i64 a1]) (.agg #[.int .i64 b0, .int .i64 b1]); binOp .eql 25 (.agg #[.int .i64 a0, .int .i64 a1]) (.agg #[.int .i64 b0, .int .i64 b1]) : Sem Value).run Tryz.prog w = .ok (.bool (decide (a0 = b0 ∧ a1 = b1))) w := by
  by_cases h0 : a0 = b0
  · skip
    by_cases h1 : a1 = b1
    · skip
      simp [go_sem, eqGuard, binOp, Op.equal, Op.maxDepth, h0, h1]
    · simp [go_sem, eqGuard, binOp, Op.equal, Op.maxDepth, h0, h1]
  · simp [go_sem, eqGuard, binOp, Op.equal, Op.maxDepth, h0]
theorem nev31 (a0 b0 : Int) (a1 b1 : Int) (a2 b2 : Int) (a3 b3 : Int) (x y : Operand) (w : World) : (do eqGuard .neq 31 x y (.agg #[.int .i64 a0, .int .i64 a1, .int .i64 a2, .int .i64 a3]) (.agg #[.int .i64 b0, .int .i64 b1, .int .i64 b2, .int .i64 b3]); binOp .neq 31 (.agg #[.int .i64 a0, .int .i64 a1, .int .i64 a2, .int .i64 a3]) (.agg #[.int .i64 b0, .int .i64 b1, .int .i64 b2, .int .i64 b3]) : Sem Value).run Tryz.prog w = .ok (.bool (decide (¬ (a0 = b0 ∧ a1 = b1 ∧ a2 = b2 ∧ a3 = b3)))) w := by
  by_cases h0 : a0 = b0
  · skip
    by_cases h1 : a1 = b1
    · skip
      by_cases h2 : a2 = b2
      · skip
        by_cases h3 : a3 = b3
        · skip
          simp [go_sem, eqGuard, binOp, Op.equal, Op.maxDepth, h0, h1, h2, h3]
        · simp [go_sem, eqGuard, binOp, Op.equal, Op.maxDepth, h0, h1, h2, h3]
      · simp [go_sem, eqGuard, binOp, Op.equal, Op.maxDepth, h0, h1, h2]
    · simp [go_sem, eqGuard, binOp, Op.equal, Op.maxDepth, h0, h1]
  · simp [go_sem, eqGuard, binOp, Op.equal, Op.maxDepth, h0]
end Sx
end Go.Proofs.YtgdpogdgpfjnoaaGreatDoor

namespace Go.Proofs.YtgdpogdgpfjnoaaGreatDoor
open Go.RowKit Go.Sort
theorem gcd_any (a b : Nat) (w : World) :
    Calls Tryz.prog 86 #[.int .u64 a, .int .u64 b] w fun e w' => e = .returned (.int .u64 (Nat.gcd a b : Nat)) ∧ Below w.heap.size w w' := by
  go_enter Tryz.func86, Tryz.ntmps86
  go_wp2
  go_loopw [0, 1] (fun x y wr => ∃ n m : Nat, x = .int .u64 n ∧ y = .int .u64 m ∧ Hid (Nat.gcd n m = Nat.gcd a b) ∧ Below w.heap.size w wr) (fun _ y _ => (intOf y).toNat)
  case atStart => exact ⟨a, b, rfl, rfl, Lib.hid rfl, Below.refl _ _⟩
  case round =>
    obtain ⟨n, m, rfl, rfl, hg, hb⟩ := hrel
    by_cases h0 : 0 < m
    · go_wp2
      go_quiet (fail)
      go_wp2
      have hlt := Nat.mod_lt n h0
      refine ⟨⟨m, n % m, rfl, by simp, Lib.hid ?_, below_drewN hb _⟩, ?_⟩
      · rw [← hg.out, Nat.gcd_comm n m, Nat.gcd_rec m n, Nat.gcd_comm]
      · show ((n : Int) % (m : Int)).toNat < ((m : Int)).toNat
        omega
    · go_wp2
      go_ret
      refine ⟨ret_int ?_, hb⟩
      rw [← hg.out]
      obtain rfl : m = 0 := by omega
      simp
theorem abs_any (n : Int) (w : World) (h0 : -9223372036854775808 ≤ n) (h1 : n ≤ 9223372036854775807) :
    Calls Tryz.prog 87 #[.int .i64 n] w fun e w' => e = .returned (.int .u64 (n.natAbs : Nat)) ∧ Below w.heap.size w w' := by
  have HW : Hid (n < 0 → IntKind.u64.wrap (-IntKind.u64.wrap n) = (n.natAbs : Nat)) := Lib.hid (by
    intro hn
    rw [IntKind.wrap_u64, IntKind.wrap_u64]
    omega)
  by_cases hn : n < 0
  · go_enter Tryz.func87, Tryz.ntmps87
    go_wp2
    go_ret
    exact ⟨ret_int (HW.out hn), Below.refl _ _⟩
  · go_enter Tryz.func87, Tryz.ntmps87
    go_wp2
    go_ret
    refine ⟨ret_int ?_, Below.refl _ _⟩
    omega
def chk (n d : Int) : Int := if d < 1 ∨ n = -9223372036854775808 ∨ 1 < Nat.gcd d.toNat n.natAbs then 8 else 0
theorem check_any (n d : Int) (w : World) (h0 : -9223372036854775808 ≤ n) (h1 : n ≤ 9223372036854775807) (h2 : -9223372036854775808 ≤ d) (h3 : d ≤ 9223372036854775807) :
    Calls Tryz.prog 44 #[.agg #[.int .i64 n, .int .i64 d]] w fun e w' => e = .returned (.int .i64 (chk n d)) ∧ Below w.heap.size w w' := by
  by_cases hd : d < 1
  · have hch : chk n d = 8 := by unfold chk; rw [if_pos (.inl hd)]
    rw [hch]
    go_enter Tryz.func44, Tryz.ntmps44
    go_wp2
    refine wp_region_quiet_below (by kernel_rfl) (by kernel_rfl) ?_
    repeat (go_big_quiet_step (fail))
    refine wpQuiet_nil ?_
    intro _ hw'
    obtain ⟨⟨dq, osq⟩, hw''⟩ := hw'
    subst hw''
    go_wp2
    go_ret
    exact ⟨rfl, below_reg (below_alloc (Below.refl _ _) _) _ _⟩
  · have hdf : decide (d < 1) = false := by simpa using hd
    by_cases hm : n = -9223372036854775808
    · have hch : chk n d = 8 := by unfold chk; rw [if_pos (.inr (.inl hm))]
      rw [hch]
      have hmb : (n == -9223372036854775808) = true := by simpa using hm
      clear hm
      go_enter Tryz.func44, Tryz.ntmps44
      go_wp2
      refine wp_region_quiet_below (by kernel_rfl) (by kernel_rfl) ?_
      repeat (go_big_quiet_step (fail))
      refine wpQuiet_nil ?_
      intro _ hw'
      obtain ⟨⟨dq, osq⟩, hw''⟩ := hw'
      subst hw''
      go_wp2
      go_ret
      exact ⟨rfl, below_reg (below_alloc (Below.refl _ _) _) _ _⟩
    · have hmb : (n == -9223372036854775808) = false := by simpa using hm
      obtain ⟨e, rfl⟩ := Int.eq_ofNat_of_zero_le (show 0 ≤ d by omega)
      by_cases hg : 1 < Nat.gcd e n.natAbs
      · have hch : chk n e = 8 := by unfold chk; rw [if_pos (.inr (.inr (by simpa using hg)))]
        rw [hch]
        clear hm
        go_enter Tryz.func44, Tryz.ntmps44
        go_wp2
        refine wp_region_quiet_below (by kernel_rfl) (by kernel_rfl) ?_
        repeat (go_big_quiet_step (first | (go_at_call 87; (with_reducible refine Calls.regrown_of (abs_any _ _ ?_ ?_)); omega; omega) | (go_at_call 86; (with_reducible refine Calls.regrown_of (gcd_any _ _ _)))))
        refine wpQuiet_nil ?_
        intro _ hw'
        obtain ⟨⟨dq, osq⟩, hw''⟩ := hw'
        subst hw''
        go_wp2
        go_ret
        exact ⟨rfl, below_reg (below_alloc (Below.refl _ _) _) _ _⟩
      · have hch : chk n e = 0 := by unfold chk; rw [if_neg (by rintro (h | h | h) <;> first | omega | exact hm h | exact hg (by simpa using h))]
        rw [hch]
        clear hm
        go_enter Tryz.func44, Tryz.ntmps44
        go_wp2
        refine wp_region_quiet_below (by kernel_rfl) (by kernel_rfl) ?_
        repeat (go_big_quiet_step (first | (go_at_call 87; (with_reducible refine Calls.regrown_of (abs_any _ _ ?_ ?_)); omega; omega) | (go_at_call 86; (with_reducible refine Calls.regrown_of (gcd_any _ _ _)))))
        refine wpQuiet_nil ?_
        intro _ hw'
        obtain ⟨⟨dq, osq⟩, hw''⟩ := hw'
        subst hw''
        go_wp2
        go_ret
        exact ⟨rfl, below_reg (below_alloc (Below.refl _ _) _) _ _⟩
end Go.Proofs.YtgdpogdgpfjnoaaGreatDoor
