/- A region that draws its order and makes TWO blocks of its own (at the two operations ahead of its tail, whenever the order has them), whose operations before only read or call what only makes memory: one walk of the text's order serves, with two ends (which block came first). No conditions beyond those that the theorem names. -/
import Derived.Test.YtffamgiknfphaaaQAlloc
namespace Go.Proofs.Ytffamgiknfphaaa
open Go Go.RowKit Go.Sort

set_option linter.unusedVariables false
section
variable {P : Program} {ops : Array Oper} {md : Region.Mode} {C : World → Prop}

/-- a change of the frame that the operations of the head do not see -/
def Unseen (P : Program) (ops : Array Oper) (C : World → Prop) (good : Nat → Prop) (ov : Act → Act) : Prop :=
  ∀ (i : Nat) (K : Act → Prop) (a : Act), good i → sOp P ops C i K a → sOp P ops C i (fun a'' => ∃ a', a'' = ov a' ∧ K a') (ov a)

theorem unseen_id {good : Nat → Prop} : Unseen P ops C good id := fun i K a _ h => sOp_mono (fun a' h' => ⟨a', rfl, h'⟩) h

theorem Unseen.put {good : Nat → Prop} {ov : Act → Act} {d : Nat} {v : Value} (hsel : ∀ (j : Nat) (o : Oper) cs b, ops[j]? = some o → o.op ≠ .select cs b)
    (hov : Unseen P ops C good ov) (hread : ∀ i o, good i → ops[i]? = some o → d ∉ o.looksAt ops ∧ o.dst ≠ some d) :
    Unseen P ops C good (fun a => (ov a).put (some d) v) := fun i K a hg h =>
  sOp_mono (fun _ h' => by
    obtain ⟨a', rfl, a2, rfl, hK⟩ := h'
    exact ⟨a2, rfl, hK⟩) (sOp_over (v := v) hsel (fun o ho => hread i o hg ho) (hov i K a hg h))

theorem head_ov {n g : Nat} {good : Nat → Prop} {ov : Act → Act} {L : Array Bool → Act → Prop} {Q' : Exit → Act → World → Prop} {D : World → Prop}
    (hov : Unseen P ops C good ov) (hDC : ∀ w, D w → C w) (hD : ∀ w w', D w → Below w.heap.size w w' → D w') (hkeep : Array Bool → Prop)
    (hk1 : ∀ listed i, hkeep listed → i ∈ Region.ready md ops listed → i < n → good i ∧ hkeep (listed.setIfInBounds i true))
    (hL : ∀ listed a w, D w → L listed a → wpAny P md ops Q' g listed (ov a) w) :
    ∀ (f : Nat) (listed : Array Bool) (a : Act) (w : World), D w → hkeep listed → headS P md ops C n L f listed a → wpAny P md ops Q' (f + g) listed (ov a) w
  | 0, listed, a, w, hw, _, h => by rw [Nat.zero_add]; exact hL _ _ _ hw h
  | f + 1, listed, a, w, hw, hk, h => by
    rw [show f + 1 + g = (f + g) + 1 by omega]
    refine ⟨fun h0 => absurd h0 h.1, fun i hi => ?_⟩
    obtain ⟨hin, hs⟩ := h.2 i hi
    obtain ⟨hg, hk2⟩ := hk1 listed i hk hi hin
    refine wpOp_of_sOp hDC hD hw (fun a'' w' hw' h' => ?_) (hov i _ a hg hs)
    obtain ⟨a', rfl, hK⟩ := h'
    exact head_ov hov hDC hD hkeep hk1 hL f _ a' w' hw' hk2 hK

/-- one operation that makes a block -/
structure Makes (P : Program) (ops : Array Oper) (m d : Nat) (zs : Array Value) (T : TypeId) (o : Oper) : Prop where
  at_ : ops[m]? = some o
  dst : o.dst = some d
  guard : o.guard = none
  after : o.after = #[]
  run : ∀ (a : Act) (w : World), (execOp a.eval o).run P w = .ok (.value (.pointer (some ⟨w.heap.size, 0, none⟩))) (w.alloc (.cells zs T))

theorem Makes.ready {m d : Nat} {zs : Array Value} {T : TypeId} {o : Oper} (h : Makes P ops m d zs T o) {listed : Array Bool} (hm : listed.getD m true = false) : m ∈ Region.ready md ops listed :=
  mem_ready.2 ⟨hm, o, h.at_, fun e he => by rw [h.after] at he; simp at he⟩

theorem Makes.wp {m d : Nat} {zs : Array Value} {T : TypeId} {o : Oper} (h : Makes P ops m d zs T o) {a : Act} {w : World} {K : Act → World → Prop} {Q' : Exit → Act → World → Prop}
    (hK : K (a.put (some d) (.pointer (some ⟨w.heap.size, 0, none⟩))) (w.alloc (.cells zs T))) : wpOp P ops Q' m K a w := by
  have hwant : Region.wanted o (yielded ops a.tmps) = true := by simp [Region.wanted, h.guard]
  unfold wpOp
  simp only [h.at_, hwant, if_true]
  refine .inl ?_
  unfold Oper.wp
  rw [h.run a w]
  simp only [Oper.upon, h.dst]
  exact hK

theorem getD_set_same {listed : Array Bool} {m : Nat} (hm : listed.getD m true = false) : (listed.setIfInBounds m true).getD m true = true := by
  have hlt : m < listed.size := by
    rcases Nat.lt_or_ge m listed.size with h' | h'
    · exact h'
    · simp [Array.getElem?_eq_none h'] at hm
  simp [hlt]

theorem not_waiting {n m i : Nat} {listed : Array Bool} (hwait : Region.waitsFor md ops n m = true) (hm : listed.getD m true = false) (hi : i ∈ Region.ready md ops listed) : i ≠ n := by
  rintro rfl
  obtain ⟨oj, hoj, e, he, hb, hon⟩ := Region.waitsFor_spec hwait
  obtain ⟨_, o', ho', hall⟩ := mem_ready.1 hi
  have : oj = o' := Option.some.inj (hoj.symm.trans ho')
  subst this
  have h2 := hall e he hb
  rw [hon, getD_both hm] at h2
  cases h2

/-- one block is still to come: operation m; those of 'done' have come -/
theorem one_pending {n m d g : Nat} {zs : Array Value} {T : TypeId} {oA : Oper} {done : Nat → Prop} {ov : Act → Act} {L : Array Bool → Act → Prop} {Q' : Exit → Act → World → Prop} {D : World → Prop}
    (hsel : ∀ (j : Nat) (o : Oper) cs b, ops[j]? = some o → o.op ≠ .select cs b)
    (hA : Makes P ops m d zs T oA)
    (hov : Unseen P ops C (fun i => i < n ∧ ¬ done i ∧ i ≠ m) ov)
    (hread : ∀ i o, (i < n ∧ ¬ done i ∧ i ≠ m) → ops[i]? = some o → d ∉ o.looksAt ops ∧ o.dst ≠ some d)
    (hwait : Region.waitsFor md ops n m = true)
    (hDC : ∀ w, D w → C w) (hD : ∀ w w', D w → Below w.heap.size w w' → D w')
    (hone : ∀ listed a, L listed a → ∀ j ∈ Region.ready md ops listed, j = n)
    (hL : ∀ listed a w w', D w → Below (w.alloc (.cells zs T)).heap.size (w.alloc (.cells zs T)) w' → L listed a → wpAny P md ops Q' g listed ((ov a).put (some d) (.pointer (some ⟨w.heap.size, 0, none⟩))) w') :
    ∀ (f : Nat) (listed : Array Bool) (a : Act) (w : World), D w → (∀ i, done i → listed.getD i true = true) → listed.getD m true = false → headS P md ops C n L f (listed.setIfInBounds m true) a →
      wpAny P md ops Q' (f + 1 + g) listed (ov a) w := by
  have hmake : ∀ (f : Nat) (listed : Array Bool) (a : Act) (w : World), D w → (∀ i, done i → listed.getD i true = true) → listed.getD m true = false → headS P md ops C n L f (listed.setIfInBounds m true) a →
      wpOp P ops Q' m (wpAny P md ops Q' (f + g) (listed.setIfInBounds m true)) (ov a) w := by
    intro f listed a w hw hdn hm h
    refine hA.wp ?_
    have hb : Below w.heap.size w (w.alloc (.cells zs T)) := (Below.refl _ _).alloc (Nat.le_refl _) _
    refine head_ov (C := C) (D := fun w' => Below (w.alloc (.cells zs T)).heap.size (w.alloc (.cells zs T)) w') (good := fun i => i < n ∧ ¬ done i ∧ i ≠ m) (ov := fun a => (ov a).put (some d) (.pointer (some ⟨w.heap.size, 0, none⟩)))
      (hov.put hsel hread) (fun w' h' => hDC w' (hD w w' hw (hb.trans (h'.mono (by simp))))) (fun w1 w2 h1 h2 => h1.trans (h2.mono h1.size))
      (fun l => (∀ i, done i → l.getD i true = true) ∧ l.getD m true = true) (fun l i hl hi hin => ?_) (fun l' a' w' hw' hl => hL l' a' w w' hw hw' hl)
      f _ a _ (Below.refl _ _) ⟨fun i hi => ?_, getD_set_same hm⟩ h
    · have hun := (mem_ready.1 hi).1
      have h1 : ¬ done i := fun hd => by rw [hl.1 i hd] at hun; cases hun
      have h2 : i ≠ m := fun e => by rw [e, hl.2] at hun; cases hun
      exact ⟨⟨hin, h1, h2⟩, fun k hk => by rw [getD_set_ne true (by rintro rfl; exact h1 hk)]; exact hl.1 k hk, by rw [getD_set_ne true h2]; exact hl.2⟩
    · by_cases him : m = i
      · rw [← him]; exact getD_set_same hm
      · rw [getD_set_ne true him]; exact hdn i hi
  intro f
  induction f with
  | zero =>
    intro listed a w hw hdn hm h
    rw [show 0 + 1 + g = (0 + g) + 1 by omega]
    refine ⟨fun h0 => (by have := hA.ready (md := md) hm; rw [h0] at this; cases this), fun i hi => ?_⟩
    by_cases him : i = m
    · subst him; exact hmake 0 listed a w hw hdn hm h
    · exact absurd (hone _ _ h i (ready_mono hi him)) (not_waiting hwait hm hi)
  | succ f ih =>
    intro listed a w hw hdn hm h
    rw [show f + 1 + 1 + g = (f + 1 + g) + 1 by omega]
    refine ⟨fun h0 => (by have := hA.ready (md := md) hm; rw [h0] at this; cases this), fun i hi => ?_⟩
    by_cases him : i = m
    · subst him; exact hmake (f + 1) listed a w hw hdn hm h
    · obtain ⟨hin, hs⟩ := h.2 i (ready_mono hi him)
      have hun := (mem_ready.1 hi).1
      have h1 : ¬ done i := fun hd => by rw [hdn i hd] at hun; cases hun
      refine wpOp_of_sOp hDC hD hw (fun a'' w' hw' h' => ?_) (hov i _ a ⟨hin, h1, him⟩ hs)
      obtain ⟨a', rfl, hK⟩ := h'
      refine ih (listed.setIfInBounds i true) a' w' hw' (fun k hk => by rw [getD_set_ne true (by rintro rfl; exact h1 hk)]; exact hdn k hk) (by rw [getD_set_ne true him]; exact hm) ?_
      rw [Array.setIfInBounds_comm _ _ him]
      exact hK

/-- two blocks are still to come -/
theorem two_pending {n m1 m2 d1 d2 g : Nat} {z1 z2 : Array Value} {T1 T2 : TypeId} {o1 o2 : Oper} {L : Array Bool → Act → Prop} {Q' : Exit → Act → World → Prop}
    (hsel : ∀ (j : Nat) (o : Oper) cs b, ops[j]? = some o → o.op ≠ .select cs b) (hne : m1 ≠ m2)
    (h1 : Makes P ops m1 d1 z1 T1 o1) (h2 : Makes P ops m2 d2 z2 T2 o2)
    (hr1 : ∀ i o, (i < n ∧ i ≠ m1 ∧ i ≠ m2) → ops[i]? = some o → d1 ∉ o.looksAt ops ∧ o.dst ≠ some d1)
    (hr2 : ∀ i o, (i < n ∧ i ≠ m1 ∧ i ≠ m2) → ops[i]? = some o → d2 ∉ o.looksAt ops ∧ o.dst ≠ some d2)
    (hw1 : Region.waitsFor md ops n m1 = true) (hw2 : Region.waitsFor md ops n m2 = true)
    (hC : ∀ w w', C w → Below w.heap.size w w' → C w')
    (hone : ∀ listed a, L listed a → ∀ j ∈ Region.ready md ops listed, j = n)
    (hL1 : ∀ listed a w w' w'', C w → Below (w.alloc (.cells z1 T1)).heap.size (w.alloc (.cells z1 T1)) w' → Below (w'.alloc (.cells z2 T2)).heap.size (w'.alloc (.cells z2 T2)) w'' → L listed a →
      wpAny P md ops Q' g listed ((a.put (some d1) (.pointer (some ⟨w.heap.size, 0, none⟩))).put (some d2) (.pointer (some ⟨w'.heap.size, 0, none⟩))) w'')
    (hL2 : ∀ listed a w w' w'', C w → Below (w.alloc (.cells z2 T2)).heap.size (w.alloc (.cells z2 T2)) w' → Below (w'.alloc (.cells z1 T1)).heap.size (w'.alloc (.cells z1 T1)) w'' → L listed a →
      wpAny P md ops Q' g listed ((a.put (some d2) (.pointer (some ⟨w.heap.size, 0, none⟩))).put (some d1) (.pointer (some ⟨w'.heap.size, 0, none⟩))) w'') :
    ∀ (f : Nat) (listed : Array Bool) (a : Act) (w : World), C w → listed.getD m1 true = false → listed.getD m2 true = false →
      headS P md ops C n L f ((listed.setIfInBounds m1 true).setIfInBounds m2 true) a → wpAny P md ops Q' (f + 2 + g) listed a w := by
  have hmk1 : ∀ (f : Nat) (listed : Array Bool) (a : Act) (w : World), C w → listed.getD m1 true = false → listed.getD m2 true = false →
      headS P md ops C n L f ((listed.setIfInBounds m1 true).setIfInBounds m2 true) a → wpOp P ops Q' m1 (wpAny P md ops Q' (f + 1 + g) (listed.setIfInBounds m1 true)) a w := by
    intro f listed a w hw hm1 hm2 h
    refine h1.wp ?_
    have hb : Below w.heap.size w (w.alloc (.cells z1 T1)) := (Below.refl _ _).alloc (Nat.le_refl _) _
    refine one_pending (C := C) (D := fun w' => Below (w.alloc (.cells z1 T1)).heap.size (w.alloc (.cells z1 T1)) w') (done := fun i => i = m1) (ov := fun a => a.put (some d1) (.pointer (some ⟨w.heap.size, 0, none⟩))) hsel h2
      ((unseen_id (good := fun i => i < n ∧ ¬ i = m1 ∧ i ≠ m2)).put hsel hr1) hr2 hw2
      (fun w' h' => hC w w' hw (hb.trans (h'.mono (by simp)))) (fun w1 w2 h1 h2 => h1.trans (h2.mono h1.size)) hone
      (fun l' a' w' w'' hw' hw'' hl => hL1 l' a' w w' w'' hw hw' hw'' hl) f _ a _ (Below.refl _ _) (fun i hi => by rw [hi]; exact getD_set_same hm1) (by rw [getD_set_ne true hne]; exact hm2) h
  have hmk2 : ∀ (f : Nat) (listed : Array Bool) (a : Act) (w : World), C w → listed.getD m1 true = false → listed.getD m2 true = false →
      headS P md ops C n L f ((listed.setIfInBounds m1 true).setIfInBounds m2 true) a → wpOp P ops Q' m2 (wpAny P md ops Q' (f + 1 + g) (listed.setIfInBounds m2 true)) a w := by
    intro f listed a w hw hm1 hm2 h
    refine h2.wp ?_
    have hb : Below w.heap.size w (w.alloc (.cells z2 T2)) := (Below.refl _ _).alloc (Nat.le_refl _) _
    refine one_pending (C := C) (D := fun w' => Below (w.alloc (.cells z2 T2)).heap.size (w.alloc (.cells z2 T2)) w') (done := fun i => i = m2) (ov := fun a => a.put (some d2) (.pointer (some ⟨w.heap.size, 0, none⟩))) hsel h1
      ((unseen_id (good := fun i => i < n ∧ ¬ i = m2 ∧ i ≠ m1)).put hsel (fun i o hi => hr2 i o ⟨hi.1, hi.2.2, hi.2.1⟩)) (fun i o hi => hr1 i o ⟨hi.1, hi.2.2, hi.2.1⟩) hw1
      (fun w' h' => hC w w' hw (hb.trans (h'.mono (by simp)))) (fun w1 w2 h1 h2 => h1.trans (h2.mono h1.size)) hone
      (fun l' a' w' w'' hw' hw'' hl => hL2 l' a' w w' w'' hw hw' hw'' hl) f _ a _ (Below.refl _ _) (fun i hi => by rw [hi]; exact getD_set_same hm2) (by rw [getD_set_ne true (Ne.symm hne)]; exact hm1) ?_
    rw [Array.setIfInBounds_comm _ _ (Ne.symm hne)]
    exact h
  intro f
  induction f with
  | zero =>
    intro listed a w hw hm1 hm2 h
    rw [show 0 + 2 + g = (0 + 1 + g) + 1 by omega]
    refine ⟨fun h0 => (by have := h1.ready (md := md) hm1; rw [h0] at this; cases this), fun i hi => ?_⟩
    by_cases him1 : i = m1
    · subst him1; exact hmk1 0 listed a w hw hm1 hm2 h
    · by_cases him2 : i = m2
      · subst him2; exact hmk2 0 listed a w hw hm1 hm2 h
      · exact absurd (hone _ _ h i (ready_mono (ready_mono hi him1) him2)) (not_waiting hw1 hm1 hi)
  | succ f ih =>
    intro listed a w hw hm1 hm2 h
    rw [show f + 1 + 2 + g = (f + 2 + g) + 1 by omega]
    refine ⟨fun h0 => (by have := h1.ready (md := md) hm1; rw [h0] at this; cases this), fun i hi => ?_⟩
    by_cases him1 : i = m1
    · subst him1; have := hmk1 (f + 1) listed a w hw hm1 hm2 h; rw [show f + 1 + 1 + g = f + 2 + g by omega] at this; exact this
    · by_cases him2 : i = m2
      · subst him2; have := hmk2 (f + 1) listed a w hw hm1 hm2 h; rw [show f + 1 + 1 + g = f + 2 + g by omega] at this; exact this
      · obtain ⟨hin, hs⟩ := h.2 i (ready_mono (ready_mono hi him1) him2)
        refine wpOp_of_sOp (D := C) (fun _ h => h) hC hw (fun a' w' hw' h' => ih (listed.setIfInBounds i true) a' w' hw' (by rw [getD_set_ne true him1]; exact hm1) (by rw [getD_set_ne true him2]; exact hm2) ?_) hs
        rw [Array.setIfInBounds_comm _ _ him1, Array.setIfInBounds_comm _ _ him2]
        exact h'

def makesB (ops : Array Oper) (m d : Nat) : Bool := match ops[m]? with | some o => o.dst == some d && o.guard.isNone && o.after.isEmpty | none => false
def blindB (ops : Array Oper) (m d : Nat) : Bool := (List.range m).all fun i => match ops[i]? with | some o => !(o.looksAt ops).contains d && o.dst != some d | none => true

/-- all that is asked of the region's text: operations m and m + 1 make the blocks, the tail begins behind them -/
def lexTwoB (md : Region.Mode) (ops : Array Oper) (m d1 d2 : Nat) : Bool :=
  Region.noSelect ops && decide (m + 2 < ops.size) && Region.sinkB md ops (m + 2) && Region.chainB md ops (m + 2) && Region.waitsFor md ops (m + 2) m && Region.waitsFor md ops (m + 2) (m + 1) &&
  makesB ops m d1 && makesB ops (m + 1) d2 && blindB ops m d1 && blindB ops m d2 &&
  lexHeadA md ops (m + 2) (ops.size - (m + 2)) m 0 (((Array.replicate ops.size false).setIfInBounds m true).setIfInBounds (m + 1) true)

theorem makes_of {m d : Nat} {zs : Array Value} {T : TypeId} (h : makesB ops m d = true)
    (hrun : ∀ (a : Act) (w : World), (execOp a.eval ((ops[m]?).getD default)).run P w = .ok (.value (.pointer (some ⟨w.heap.size, 0, none⟩))) (w.alloc (.cells zs T))) :
    ∃ o, Makes P ops m d zs T o := by
  unfold makesB at h
  cases ho : ops[m]? with
  | none => rw [ho] at h; cases h
  | some o =>
    rw [ho] at h hrun
    simp only [Bool.and_eq_true, beq_iff_eq, Option.isNone_iff_eq_none, Array.isEmpty_iff] at h
    exact ⟨o, ho, h.1.1, h.1.2, h.2, hrun⟩

theorem blind_of {m d : Nat} (h : blindB ops m d = true) (i : Nat) (o : Oper) (hi : i < m) (ho : ops[i]? = some o) : d ∉ o.looksAt ops ∧ o.dst ≠ some d := by
  have h1 := List.all_eq_true.1 h i (List.mem_range.2 hi)
  rw [ho] at h1
  simp only [Bool.and_eq_true, Bool.not_eq_true', bne_iff_ne, ne_eq] at h1
  refine ⟨fun hd => ?_, h1.2⟩
  rw [List.contains_iff_mem.2 hd] at h1
  simp at h1

theorem wp_region_two {id : Nat} {Q : Exit → Act → World → Prop} {a : Act} {w : World} {l : List Oper} (m d1 d2 : Nat) (z1 z2 : Array Value) (T1 T2 : TypeId) (hm : P.follows .mixedOrders = true)
    (hB : lexTwoB .any l.toArray m d1 d2 = true)
    (hrun1 : ∀ (a : Act) (w : World), (execOp a.eval ((l[m]?).getD default)).run P w = .ok (.value (.pointer (some ⟨w.heap.size, 0, none⟩))) (w.alloc (.cells z1 T1)))
    (hrun2 : ∀ (a : Act) (w : World), (execOp a.eval ((l[m + 1]?).getD default)).run P w = .ok (.value (.pointer (some ⟨w.heap.size, 0, none⟩))) (w.alloc (.cells z2 T2)))
    (h : wpS P l.toArray (fun w' => ∃ p : Regrown, w' = grow (redrawn w p.d) p.os)
      (fun a' => (∀ p q r : Regrown, wpList P l.toArray Q (l.drop (m + 2)) ((a'.put (some d1) (.pointer (some ⟨w.heap.size + p.os.size, 0, none⟩))).put (some d2) (.pointer (some ⟨w.heap.size + p.os.size + 1 + q.os.size, 0, none⟩)))
          (grow (redrawn ((grow (redrawn ((grow (redrawn w p.d) p.os).alloc (.cells z1 T1)) q.d) q.os).alloc (.cells z2 T2)) r.d) r.os)) ∧
        (∀ p q r : Regrown, wpList P l.toArray Q (l.drop (m + 2)) ((a'.put (some d2) (.pointer (some ⟨w.heap.size + p.os.size, 0, none⟩))).put (some d1) (.pointer (some ⟨w.heap.size + p.os.size + 1 + q.os.size, 0, none⟩)))
          (grow (redrawn ((grow (redrawn ((grow (redrawn w p.d) p.os).alloc (.cells z2 T2)) q.d) q.os).alloc (.cells z1 T1)) r.d) r.os))) (l.take m) a) :
    (Code.region id l.toArray true).wp P Q a w := by
  simp only [lexTwoB, Bool.and_eq_true, decide_eq_true_eq] at hB
  obtain ⟨⟨⟨⟨⟨⟨⟨⟨⟨⟨hsel, hn⟩, hs⟩, hc⟩, hwt1⟩, hwt2⟩, hmb1⟩, hmb2⟩, hbl1⟩, hbl2⟩, hlex⟩ := hB
  obtain ⟨o1, k1⟩ := makes_of (P := P) (zs := z1) (T := T1) hmb1 (by simpa using hrun1)
  obtain ⟨o2, k2⟩ := makes_of (P := P) (zs := z2) (T := T2) hmb2 (by simpa using hrun2)
  have hn' : m + 2 < l.length := by simpa using hn
  have htl : (l.take m).length = m := by simp; omega
  have hdl : (l.drop (m + 2)).length = l.toArray.size - (m + 2) := by simp
  have inv0 : HeadInv .any l.toArray (m + 2) (((Array.replicate l.toArray.size false).setIfInBounds m true).setIfInBounds (m + 1) true) := by
    refine ⟨by simp, fun j oj hj hl e he hb => ?_, fun t ht _ => ?_⟩
    · by_cases hj2 : m + 1 = j
      · subst hj2
        rw [k2.at_] at hj
        injection hj with hj
        subst hj
        rw [k2.after] at he
        simp at he
      · by_cases hj1 : m = j
        · subst hj1
          rw [k1.at_] at hj
          injection hj with hj
          subst hj
          rw [k1.after] at he
          simp at he
        · rw [getD_set_ne false hj2, getD_set_ne false hj1, getD_replicate_false] at hl
          cases hl
    · rw [getD_set_ne true (by omega), getD_set_ne true (by omega)]
      exact getD_in (by simpa using (by assumption : t < l.toArray.size)) (getD_replicate_false _ _)
  have H := headS_lex (md := .any) (n := m + 2) (m := m) (g := l.toArray.size - (m + 2)) hsel hs hc hn (by omega) (l.take m) 0 _ a (fun j hj => by
    have hj' : j < m := by rw [htl] at hj; exact hj
    simp [hj']) (by simpa using htl) inv0 (by rw [htl]; exact hlex) h
  refine wp_region_any hm ?_
  have hCc : ∀ w1 w2 : World, (∃ p : Regrown, w1 = grow (redrawn w p.d) p.os) → Below w1.heap.size w1 w2 → ∃ p : Regrown, w2 = grow (redrawn w p.d) p.os := by
    rintro w1 w2 ⟨p, rfl⟩ hb
    exact regrown_of_below ((below_regrown w p.d p.os).trans (hb.mono (below_regrown w p.d p.os).size))
  have hseq : ∀ (listed : Array Bool) (a' : Act) (w' : World), Region.seqB .any l.toArray (l.toArray.size - (m + 2)) (m + 2) listed = true → wpList P l.toArray Q (l.drop (m + 2)) a' w' →
      wpAny P .any l.toArray Q (l.toArray.size - (m + 2)) listed a' w' := by
    intro listed a' w' hq hfin
    have := wpAny_of_seq (md := .any) (Q' := Q) (l.drop (m + 2)) (m + 2) listed a' w' (fun j => by simp [List.getElem?_drop]) (by rw [hdl]; exact hq) hfin
    rw [hdl] at this
    exact this
  have hread : ∀ d, blindB l.toArray m d = true → ∀ i o, (i < m + 2 ∧ i ≠ m ∧ i ≠ m + 1) → l.toArray[i]? = some o → d ∉ o.looksAt l.toArray ∧ o.dst ≠ some d :=
    fun d hd i o hi ho => blind_of hd i o (by omega) ho
  have := two_pending (P := P) (C := fun w' => ∃ p : Regrown, w' = grow (redrawn w p.d) p.os) (Q' := Q) (g := l.toArray.size - (m + 2)) (n := m + 2)
    (L := fun listed' a' => Region.seqB .any l.toArray (l.toArray.size - (m + 2)) (m + 2) listed' = true ∧ ((∀ p q r : Regrown, wpList P l.toArray Q (l.drop (m + 2)) ((a'.put (some d1) (.pointer (some ⟨w.heap.size + p.os.size, 0, none⟩))).put (some d2) (.pointer (some ⟨w.heap.size + p.os.size + 1 + q.os.size, 0, none⟩)))
          (grow (redrawn ((grow (redrawn ((grow (redrawn w p.d) p.os).alloc (.cells z1 T1)) q.d) q.os).alloc (.cells z2 T2)) r.d) r.os)) ∧
        (∀ p q r : Regrown, wpList P l.toArray Q (l.drop (m + 2)) ((a'.put (some d2) (.pointer (some ⟨w.heap.size + p.os.size, 0, none⟩))).put (some d1) (.pointer (some ⟨w.heap.size + p.os.size + 1 + q.os.size, 0, none⟩)))
          (grow (redrawn ((grow (redrawn ((grow (redrawn w p.d) p.os).alloc (.cells z2 T2)) q.d) q.os).alloc (.cells z1 T1)) r.d) r.os))))
    (Region.noSelect_spec hsel) (Nat.ne_of_lt (Nat.lt_succ_self m)) k1 k2 (hread d1 hbl1) (hread d2 hbl2) hwt1 hwt2 hCc
    (fun listed' a' hL j hj => by
      obtain ⟨g', hg'⟩ : ∃ g', l.toArray.size - (m + 2) = g' + 1 := ⟨l.toArray.size - (m + 2) - 1, by omega⟩
      have hq := hL.1
      rw [hg'] at hq
      simp only [Region.seqB, Bool.and_eq_true, decide_eq_true_eq] at hq
      rw [hq.1] at hj
      simpa using hj)
    (fun listed a' w1 w2 w3 hw1 hw2 hw3 hL => by
      obtain ⟨p, rfl⟩ := hw1
      obtain ⟨q, rfl⟩ := regrown_of_below hw2
      obtain ⟨r, rfl⟩ := regrown_of_below hw3
      refine hseq _ _ _ hL.1 ?_
      have hfin := hL.2.1 p q r
      simpa [size_grow, redrawn] using hfin)
    (fun listed a' w1 w2 w3 hw1 hw2 hw3 hL => by
      obtain ⟨p, rfl⟩ := hw1
      obtain ⟨q, rfl⟩ := regrown_of_below hw2
      obtain ⟨r, rfl⟩ := regrown_of_below hw3
      refine hseq _ _ _ hL.1 ?_
      have hfin := hL.2.2 p q r
      simpa [size_grow, redrawn] using hfin)
    m (Array.replicate l.toArray.size false) a { w with drawn := w.drawn + 1 } ⟨⟨w.drawn + 1, #[]⟩, by rw [grow_empty]; rfl⟩
    (getD_in (by simp; omega) (getD_replicate_false _ _)) (getD_in (by simp; omega) (getD_replicate_false _ _)) (by rw [htl] at H; exact H)
  rw [show m + 2 + (l.toArray.size - (m + 2)) = l.toArray.size by omega] at this
  exact this
end
end Go.Proofs.Ytffamgiknfphaaa
