import Derived.Test.YtgdpogdgpfjnoaaDoorGLCTextsAO
import Derived.Test.YtgdpogdgpfjnoaaDoorGLCTextsAL
import Derived.RangeFuncFrom
import Derived.RangeFuncLeaves
import Derived.RangeFuncBox
import Derived.WalkKit
import Derived.OwnWalkIn
import Derived.TacticsInMore
import Derived.RegionIn
import Derived.LoopNIn
import Derived.LoopIn
import Derived.RangeFuncCalls
set_option linter.all false
namespace Go.Proofs.YtgdpogdgpfjnoaaDoor
open Go Go.RowKit Go.Sort Sx
open Go.Lib hiding intOf
abbrev retMd (x : Md × Int) : DV := .tup [x.1.dc, .one (i64 x.2)]
theorem bm_cases (m : Md) (s : Str) : (mchk m = 0 ∧ textT m = s ∧ backM s (some m) = (m, 0)) ∨ (mchk m = 0 ∧ textT m ≠ s ∧ backM s (some m) = (mdZ, 12)) ∨ (mchk m = 8 ∧ backM s (some m) = (mdZ, 12)) := by
  rcases mchk_08 m with h | h
  · by_cases e : textT m = s
    · exact .inl ⟨h, e, backM_of h e⟩
    · exact .inr (.inl ⟨h, e, by unfold backM; dsimp only; rw [if_neg fun k => e k.2]⟩)
  · exact .inr (.inr ⟨h, by unfold backM; dsimp only; rw [if_neg fun k => by omega]⟩)
set_option maxRecDepth 100000 in
set_option maxHeartbeats 1000000 in
theorem rcParse_fn (s : Str) (hs0 : s.length ≤ 100000) : FnOK Tryd.prog 13 [.one (str s)] (retMd (parseR s)) := by
  unfold parseR
  by_cases hs : 2500 < s.length
  · rw [if_pos hs]
    refine fn_ok (by kernel_rfl) (ty_okK [61] [] [] []) Tryd.func13 rfl (fun _ _ => Tryd.call13 _ _) rfl ?_
    intro hw
    clear hw
    repeat' ((conv => whnf); first | (with_reducible first | refine br_t ?_ | refine br_f ?_ | refine za ?_ | refine zg ?_ | refine zo ?_) | refine zsl ?_ | refine zsg ?_ | refine zss ?_ | refine zs1 ?_ | refine zse ?_ | refine zsn ?_ | refine zsc ?_ | (with_reducible first | refine zpa ?_ | refine zqa ?_) | refine zp ?_ | refine zq ?_ | (with_reducible first | refine bc (fun h => ?_) (fun h => ?_) | refine zt ?_ | refine zf ?_ | refine br_i (fun h => ?_) (fun h => ?_)) | refine zg ?_ | refine zi ?_ | refine zb ?_ | refine zl ?_)
    all_goals conv => whnf
    all_goals rfl
  rw [if_neg hs]
  have Hs : FnOK Tryd.prog 25 [.one (str s), .one (.v (.int .u8 10))] (.c (.one (strs (spl 10 s)))) := rcCut_fn s 10 hs0
  have hl1 := spl_len 10 s
  have hl2 := spl_each 10 s
  have hne := spl_ne 10 s
  unfold prsR
  obtain ⟨L, hL⟩ : ∃ L, L = spl 10 s := ⟨_, rfl⟩
  rw [← hL] at Hs hl1 hl2 hne ⊢
  obtain ⟨K, hK⟩ : ∃ K, K = L.dropLast := ⟨_, rfl⟩
  rw [← hK]
  have hKl : K.length = L.length - 1 := by rw [hK, List.length_dropLast]
  have hLp : 0 < L.length := List.length_pos_iff.2 hne
  have gl : (L.map fun s => [str s]).length = L.length := by simp
  have ewl : IntKind.i64.wrap ((((L.map fun s => [str s]).length : Nat) : Int) - 1) = (K.length : Int) := by rw [IntWalk.i64_in _ (by omega)]; omega
  refine fn_ok (by kernel_rfl) (ty_okK [61] [] [] []) Tryd.func13 rfl (fun _ _ => Tryd.call13 _ _) rfl ?_
  intro hw
  clear hw
  repeat' ((conv => whnf); first | (with_reducible first | refine br_t ?_ | refine br_f ?_ | refine za ?_ | refine zg ?_ | refine zo ?_) | refine zsl ?_ | refine zsg ?_ | refine zss ?_ | refine zs1 ?_ | refine zse ?_ | refine zsn ?_ | refine zsc ?_ | (with_reducible first | refine zpa ?_ | refine zqa ?_) | refine zp ?_ | refine zq ?_ | (with_reducible first | refine bc (fun h => ?_) (fun h => ?_) | refine zt ?_ | refine zf ?_ | refine br_i (fun h => ?_) (fun h => ?_)) | refine zg ?_ | refine zi ?_ | refine zb ?_ | refine zl ?_)
  refine loop_nameH 4 2 100 rfl rfl rfl ?_
  refine loop_J (by kernel_rfl) (ty_okK [61] [] [] []) (σ := Nat × Md) (fun q => [(6, sV (.int .i64 (q.1 : Nat)))]) (fun q => [(4, .own [.d (i64 q.2.n), .d (i64 q.2.d), .osl 100 0]), (100, .row 3 (q.2.l.map Pt.c) 0)])
    (fun q => q.1 ≤ K.length ∧ q.2.l.length ≤ q.1 ∧ ((q.1 = 0 ∧ q.2 = mdZ) ∨ (0 < q.1 ∧ prsK K = (prsP q.2.l (K.drop q.1)).map fun l => ⟨q.2.n, q.2.d, l⟩))) (fun q => K.length - q.1) (0, mdZ) ⟨Nat.zero_le _, Nat.zero_le _, .inl ⟨rfl, rfl⟩⟩ ?_ ?_
  · (conv => whnf); exact zent
  · rintro ⟨i, ⟨n, d, l⟩⟩ ⟨hi, hlen, hI⟩
    simp only at hi hlen hI ⊢
    by_cases hiK : i = K.length
    · have hfin : prsK K = some ⟨n, d, l⟩ := by
        rcases hI with ⟨h0, he⟩ | ⟨h0, he⟩
        · have : K = [] := List.eq_nil_of_length_eq_zero (by omega)
          rw [this, he]; rfl
        · rw [he, hiK, List.drop_length]; rfl
      rw [hfin]
      have hml : (l.map Pt.c).length = l.length := List.length_map ..
      have Hc : FnOK Tryd.prog 24 [.agg [i64 n, i64 d, pts l]] (ret1 (mchk ⟨n, d, l⟩)) := roCheck_fn ⟨n, d, l⟩
      have Ht : mchk ⟨n, d, l⟩ = 0 → FnOK Tryd.prog 35 [.agg [i64 n, i64 d, pts l]] (.c (.one (str (textT ⟨n, d, l⟩)))) := rctext_fn ⟨n, d, l⟩
      rcases bm_cases ⟨n, d, l⟩ s with ⟨h1, h2, b⟩ | ⟨h1, h2, b⟩ | ⟨h1, b⟩
      all_goals rw [h1] at Hc
      all_goals rw [b]
      all_goals try replace Ht := Ht h1
      all_goals clear h1 b hfin hI
      repeat' ((conv => whnf); first | (with_reducible first | refine br_t ?_ | refine br_f ?_ | refine za ?_ | refine zg ?_ | refine zo ?_) | (refine zl ?_ Hc) | (refine zl ?_ Ht) | refine zsl ?_ | refine zsg ?_ | refine zss ?_ | refine zs1 ?_ | refine zse ?_ | refine zsn ?_ | refine zsc ?_ | (with_reducible first | refine zpa ?_ | refine zqa ?_) | refine zp ?_ | refine zq ?_ | (with_reducible first | refine bc (fun h => ?_) (fun h => ?_) | refine zt ?_ | refine zf ?_ | refine br_i (fun h => ?_) (fun h => ?_)) | refine zg ?_ | refine zi ?_ | refine zb ?_ | refine zl ?_)
      all_goals conv => whnf
      all_goals first | rfl | contradiction
    · have hi2 : i < K.length := by omega
      have hiL : i < L.length := by omega
      have hKi : K[i] = L[i] := by subst hK; rw [List.getElem_dropLast]
      obtain ⟨x, hx⟩ : ∃ x, x = L[i] := ⟨_, rfl⟩
      have hxl := hl2 x (by rw [hx]; exact List.getElem_mem hiL)
      have hg : (L.map fun s => [str s])[(i : Int).toNat]? = some [str x] := by rw [Int.toNat_natCast, List.getElem?_map, List.getElem?_eq_getElem hiL, hx]; rfl
      have hdr : K.drop i = x :: K.drop (i + 1) := by rw [List.drop_eq_getElem_cons hi2, hKi, hx]
      have Hw : FnOK Tryd.prog 25 [.one (str x), .one (.v (.int .u8 32))] (.c (.one (strs (spl 32 x)))) := rcCut_fn x 32 (by omega)
      have hw1 := spl_len 32 x
      have hw2 := spl_each 32 x
      obtain ⟨w0, t, hwt⟩ : ∃ w0 t, spl 32 x = w0 :: t := by
        cases h : spl 32 x with
        | nil => exact absurd h (spl_ne 32 x)
        | cons a b => exact ⟨a, b, rfl⟩
      rw [hwt] at Hw hw1 hw2
      obtain ⟨z, hz⟩ : ∃ z, z = (w0 :: t).getLastD [] := ⟨_, rfl⟩
      have hzm : z ∈ w0 :: t := by rw [hz, List.getLastD_cons]; exact List.getLastD_mem_cons ..
      have hlt : t.length ≤ 2501 := by simp only [List.length_cons] at hw1; omega
      have gwl : ((w0 :: t).map fun s => [str s]).length = t.length + 1 := by simp
      have ew : IntKind.i64.wrap ((((w0 :: t).map fun s => [str s]).length : Nat) - 1 : Int) = (t.length : Int) := by rw [IntWalk.i64_in _ (by omega)]; omega
      have gz : ((w0 :: t).map fun s => [str s])[(IntKind.i64.wrap ((((w0 :: t).map fun s => [str s]).length : Nat) - 1 : Int)).toNat]? = some [str z] := by
        rw [ew, Int.toNat_natCast, List.getElem?_map, hz, List.getLastD_eq_getLast?, List.getLast?_eq_getElem?, List.length_cons, Nat.add_sub_cancel, List.getElem?_eq_getElem (by simp)]; rfl
      have hT : List.drop (Int.toNat 1) (List.take ((((w0 :: t).map fun s => [str s]).length : Nat) : Int).toNat ((w0 :: t).map fun s => [str s])) = t.map fun s => [str s] := by
        rw [Int.toNat_natCast, List.take_length]; rfl
      have Hr := rcpoints_fn t (by omega) fun y hy => Nat.le_trans (hw2 y (List.mem_cons_of_mem _ hy)) (by omega)
      rw [show strs t = .list 1 (List.drop (Int.toNat 1) (List.take ((((w0 :: t).map fun s => [str s]).length : Nat) : Int).toNat ((w0 :: t).map fun s => [str s]))) by rw [hT]] at Hr
      have Hn := rcReadNumber_fn z (by have := hw2 z hzm; omega)
      have e1 : IntKind.i64.wrap ((i : Int) + 1) = ((i + 1 : Nat) : Int) := by rw [IntWalk.i64_in _ (by omega)]; omega
      clear hT hx hKi hK hL hl2 hw2 hzm
      rcases hI with ⟨h0, he⟩ | ⟨h0, he⟩
      · subst h0
        injection he with en ed el
        subst en ed el
        have hKx : prsK K = if (readR z).2 = 0 then (prsP [] (K.drop 1)).map fun l => ⟨(readR z).1.1, (readR z).1.2, l⟩ else none := by
          rw [List.drop_zero] at hdr
          rw [show prsK K = prsK (x :: K.drop 1) from congrArg prsK hdr, prsK, hwt, ← hz]
        generalize readR z = q at *
        obtain ⟨⟨qn, qd⟩, qe⟩ := q
        simp only [retR3] at Hn hKx
        clear hz hwt hdr
        by_cases hq : qe = 0
        · subst hq
          rw [if_pos rfl] at hKx
          repeat' ((conv => whnf); first | (with_reducible first | refine br_t ?_ | refine br_f ?_ | refine za ?_ | refine zg ?_ | refine zo ?_) | refine zsl ?_ | refine zsg ?_ | refine zss ?_ | refine zs1 ?_ | refine zse ?_ | refine zsn ?_ | refine zsc ?_ | (with_reducible first | refine zpa ?_ | refine zqa ?_) | refine zp ?_ | refine zq ?_ | (with_reducible first | refine bc (fun h => ?_) (fun h => ?_) | refine zt ?_ | refine zf ?_ | refine br_i (fun h => ?_) (fun h => ?_)) | refine zg ?_ | refine zi ?_ | refine zb ?_ | refine zl ?_)
          all_goals conv => whnf
          refine ⟨(1, ⟨qn, qd, []⟩), ⟨by simp only; omega, Nat.zero_le _, .inr ⟨by simp only; omega, hKx⟩⟩, ?_, by simp only; omega⟩
          (conv => whnf); exact zent
        · rw [if_neg hq] at hKx
          rw [hKx]
          repeat' ((conv => whnf); first | (with_reducible first | refine br_t ?_ | refine br_f ?_ | refine za ?_ | refine zg ?_ | refine zo ?_) | refine zsl ?_ | refine zsg ?_ | refine zss ?_ | refine zs1 ?_ | refine zse ?_ | refine zsn ?_ | refine zsc ?_ | (with_reducible first | refine zpa ?_ | refine zqa ?_) | refine zp ?_ | refine zq ?_ | (with_reducible first | refine bc (fun h => ?_) (fun h => ?_) | refine zt ?_ | refine zf ?_ | refine br_i (fun h => ?_) (fun h => ?_)) | refine zg ?_ | refine zi ?_ | refine zb ?_ | refine zl ?_)
          all_goals conv => whnf
          all_goals rfl
      · have hKx : prsK K = (match (rd3R t).map (fun p : Int × Int × Int => (⟨p.1, p.2.1, p.2.2⟩ : Pt)) with | some p => prsP (l ++ [p]) (K.drop (i + 1)) | none => none).map fun l => ⟨n, d, l⟩ := by
          rw [he, hdr, prsP, hwt, List.tail_cons, rdPtR_3]
          cases rd3R t <;> rfl
        clear he hz hwt hdr
        have hml : (l.map Pt.c).length = l.length := List.length_map ..
        cases hp : rd3R t with
        | none =>
          rw [hp] at Hr hKx
          simp only [Option.map_none, retPo] at Hr hKx
          rw [hKx]
          repeat' ((conv => whnf); first | (with_reducible first | refine br_t ?_ | refine br_f ?_ | refine za ?_ | refine zg ?_ | refine zo ?_) | refine zsl ?_ | refine zsg ?_ | refine zss ?_ | refine zs1 ?_ | refine zse ?_ | refine zsn ?_ | refine zsc ?_ | (with_reducible first | refine zpa ?_ | refine zqa ?_) | refine zp ?_ | refine zq ?_ | (with_reducible first | refine bc (fun h => ?_) (fun h => ?_) | refine zt ?_ | refine zf ?_ | refine br_i (fun h => ?_) (fun h => ?_)) | refine zg ?_ | refine zi ?_ | refine zb ?_ | refine zl ?_)
          all_goals conv => whnf
          all_goals rfl
        | some p =>
          obtain ⟨p1, p2, p3⟩ := p
          rw [hp] at Hr hKx
          simp only [Option.map_some, retPo] at Hr hKx
          have ha : l.map Pt.c ++ [[i64 p1, i64 p2, i64 p3]] = (l ++ [(⟨p1, p2, p3⟩ : Pt)]).map Pt.c := by rw [List.map_append]; rfl
          repeat' ((conv => whnf); first | (with_reducible first | refine br_t ?_ | refine br_f ?_ | refine za ?_ | refine zg ?_ | refine zo ?_) | refine zsl ?_ | refine zsg ?_ | refine zss ?_ | refine zs1 ?_ | refine zse ?_ | refine zsn ?_ | refine zsc ?_ | (with_reducible first | refine zpa ?_ | refine zqa ?_) | refine zp ?_ | refine zq ?_ | (with_reducible first | refine bc (fun h => ?_) (fun h => ?_) | refine zt ?_ | refine zf ?_ | refine br_i (fun h => ?_) (fun h => ?_)) | refine zg ?_ | refine zi ?_ | refine zb ?_ | refine zl ?_)
          all_goals conv => whnf
          refine ⟨(i + 1, ⟨n, d, l ++ [⟨p1, p2, p3⟩]⟩), ⟨by simp only; omega, by simp only [List.length_append, List.length_cons, List.length_nil]; omega, .inr ⟨by simp only; omega, hKx⟩⟩, ?_, by simp only; omega⟩
          simp only
          rw [← e1, ← ha]
          (conv => whnf); exact zent
end Go.Proofs.YtgdpogdgpfjnoaaDoor

namespace Go.Proofs.YtgdpogdgpfjnoaaDoor
open Go Go.RowKit
def SeqEnds {α : Type} (n : Nat) (P : Program) (g : Nat) (lb : Array Value) (encs : α → Array Value) (bs : Nat → Prop) (xs : List α) (w : World) : Prop :=
  ∀ (lp : Nat) (J : List α → World → Prop) (Jx : World → Prop) (W : World), w.heap.size ≤ W.heap.size → (∀ b, bs b → W.heap[b]? = w.heap[b]?) →
    (∀ pre A B row, J pre A → A.grownBy B row → (∀ r, row = some r → bs r) → J pre B) →
    (∀ pre x post W1, pre ++ x :: post = xs → J pre W1 → YieldAt Fence.wide (n - 1) P lp (encs x) W1 fun e W' => (e = .returned (.bool true) ∧ J (pre ++ [x]) W' ∧ W1.heap.size ≤ W'.heap.size ∧ ∀ b, bs b → W'.heap[b]? = W1.heap[b]?) ∨ (e = .returned (.bool false) ∧ Jx W')) → J [] W →
    CallsIn Fence.wide n P g (#[.func (.yield lp) #[] #[]] ++ lb) W fun e W' => (∃ v, e = .returned v) ∧ (J xs W' ∨ Jx W')
def endsPost {α : Type} (bs : Nat → Prop) (I : List α → World → Prop) (Ix : World → Prop) (pre : List α) (W : World) : Exit → Act → World → Prop
  | .normal, _, W' => KeepsOthers W W' ∧ (∀ b, bs b → W'.heap[b]? = W.heap[b]?) ∧ I pre W'
  | .ret, _, W' => KeepsOthers W W' ∧ Ix W'
  | _, _, _ => False
theorem wpIn_rangeEnds {P : Program} {α : Type} {g : Operand} {ps : Array Tmp} {assign body : Code} {Q : Exit → Act → World → Prop} {a : Act} {w : World} {n : Nat} (h1 : 1 ≤ n) {gf : Nat} {lb : Array Value} (hg : a.eval g = .func (.func gf) #[] lb)
    (eg : ∀ args w, (callFunc gf args).run P w = .ok (.enter gf args) w) {encs : α → Array Value} {bs : Nat → Prop} {xs : List α} (hseq : SeqEnds (n - 1) P gf lb encs bs xs w) (hbs : ∀ b, bs b → b < w.heap.size) (hps : ∀ x, (encs x).size = ps.size)
    (I : List α → World → Prop) (Ix : World → Prop)
    (hI : ∀ pre A B row, I pre A → A.grownBy B row → (∀ r, row = some r → bs r ∨ (w.heap.size ≤ r ∧ ∃ o : Obj, A.heap[r]? = some o ∧ o.isCells = false)) → I pre B)
    (hIx : ∀ A B row, Ix A → A.grownBy B row → (∀ r, row = some r → w.heap.size ≤ r ∧ ∃ o : Obj, A.heap[r]? = some o ∧ o.isCells = false) → Ix B)
    (h0 : I [] w) (a₁ : α → Act)
    (hassign : ∀ (lp : Nat) (x : α) (W : World) (K : Act → World → Prop), K (a₁ x) W → assign.wpIn (Fence.wide.inRound lp) (n - 1 - 1) P (Exit.then K (fun _ _ _ => False)) { tmps := (ps.zip (encs x)).foldl (fun t (p, v) => t.setIfInBounds p v) a.tmps, defers := [] } W)
    (hbody : ∀ (lp : Nat) (pre : List α) (x : α) (post : List α) (W : World), pre ++ x :: post = xs → I pre W → body.wpIn (Fence.wide.inRound lp) (n - 1 - 1) P (endsPost bs I Ix (pre ++ [x]) W) (a₁ x) W)
    (hdone : ∀ (D : Nat) (W : World), w.heap.size ≤ D → I xs W → W.heap[D]? = some (.deferred (some [])) → Q .normal { a with defers := { target := .collected D, args := #[] } :: a.defers } W)
    (hstop : ∀ (D : Nat) (W : World), w.heap.size ≤ D → Ix W → W.heap[D]? = some (.deferred (some [])) → Code.ret.wpIn Fence.wide n P Q { a with defers := { target := .collected D, args := #[] } :: a.defers } W) :
    (Code.rangeFunc g ps assign body).wpIn Fence.wide n P Q a w := by
  refine wpIn_rangeFunc fun fn hfn => ?_
  obtain ⟨L, hL⟩ : ∃ L : LoopState → Option Code → Obj, L = fun st pe => .loop { state := st, pending := pe, fn, tmps := a.tmps, params := ps, assign, body, defers := w.heap.size } := ⟨_, rfl⟩
  have hLc : ∀ st pe, (L st pe).isCells = false := fun st pe => by rw [hL]; rfl
  obtain ⟨W1, hW1⟩ : ∃ W1, W1 = (w.alloc (.deferred (some []))).alloc (L .ready none) := ⟨_, rfl⟩
  have s1 : W1.heap.size = w.heap.size + 2 := by rw [hW1]; simp
  have g1 : W1.heap[w.heap.size + 1]? = some (L .ready none) := by rw [hW1]; have := World.alloc_heap_new (w.alloc (.deferred (some []))) (L .ready none); rwa [World.size_alloc] at this
  have g2 : W1.heap[w.heap.size]? = some (.deferred (some [])) := by rw [hW1]; exact (Below.heap_alloc _ _ _ (by simp)).trans (World.alloc_heap_new w _)
  have nn : ∀ {A B : World} {row : Option Nat}, row = none → (∀ r, row = some r → bs r ∨ (w.heap.size ≤ r ∧ ∃ o : Obj, A.heap[r]? = some o ∧ o.isCells = false)) := fun h r e => by rw [h] at e; cases e
  have i1 : I [] W1 := by
    rw [hW1]
    exact hI _ _ _ none (hI _ _ _ none h0 (World.grownBy_alloc w _ none) (nn (B := w) rfl)) (World.grownBy_alloc _ _ none) (nn (B := w) rfl)
  have lowb : ∀ b, b < w.heap.size → W1.heap[b]? = w.heap[b]? := fun b hb => by
    rw [hW1]; exact (Below.heap_alloc _ _ b (by simp; omega)).trans (Below.heap_alloc _ _ b hb)
  refine ⟨w.heap.size + 1, [{ target := .collected w.heap.size, args := #[] }], W1, { target := .fn (.func gf) lb, args := #[.func (.yield (w.heap.size + 1)) #[] #[]] }, W1, gf, #[.func (.yield (w.heap.size + 1)) #[] #[]] ++ lb, W1, ?_, ?_, fun f' _ => trivial, ?_, fun _ => h1, ?_⟩
  · have := run_enterLoop_outer (P := P) (w := w) fn a.tmps ps assign body
    rw [hW1, hL]; exact this
  · simp only [resolve, hg]; simp [go_sem]
  · simp [invoke, go_sem, eg]
  have put : ∀ {W : World} {st : LoopState} {pe : Option Code} {st' : LoopState} {pe' : Option Code}, W.heap[w.heap.size + 1]? = some (L st pe) → ∀ r, some (w.heap.size + 1) = some r → w.heap.size ≤ r ∧ ∃ o : Obj, W.heap[r]? = some o ∧ o.isCells = false := fun hl r e => by
    injection e with e; subst e; exact ⟨Nat.le_succ _, _, hl, hLc _ _⟩
  refine (hseq (w.heap.size + 1) (fun pre W => I pre W ∧ W.heap[w.heap.size + 1]? = some (L .ready none) ∧ W.heap[w.heap.size]? = some (.deferred (some []))) (fun W => Ix W ∧ W.heap[w.heap.size + 1]? = some (L .done (some .ret)) ∧ W.heap[w.heap.size]? = some (.deferred (some []))) W1 (by omega)
    (fun b hb => lowb b (hbs b hb))
    (fun s A B row hs hg' hr => ⟨hI s A B row hs.1 hg' fun r e => .inl (hr r e),
      (hg'.block _ (Array.getElem?_eq_some_iff.1 hs.2.1).1 fun e => by have := hbs _ (hr _ e.symm); omega).trans hs.2.1,
      (hg'.block _ (Array.getElem?_eq_some_iff.1 hs.2.2).1 fun e => by have := hbs _ (hr _ e.symm); omega).trans hs.2.2⟩)
    ?_ ⟨i1, g1, g2⟩).mono ?_
  · rintro pre x post W hpost ⟨hi, hl, hk⟩
    have hlw : w.heap.size + 1 < W.heap.size := (Array.getElem?_eq_some_iff.1 hl).1
    have hl' : W.heap[w.heap.size + 1]? = some (.loop { state := .ready, pending := none, fn, tmps := a.tmps, params := ps, assign, body, defers := w.heap.size }) := by rw [hl, hL]
    have hy := run_yield (P := P) (args := encs x) hl' (hps x)
    refine ⟨fn, _, assign, body, hy, roundIn_of_wpIn hfn (hassign _ x W _ ?_)⟩
    have hb := run_beginRound (P := P) hl' rfl
    obtain ⟨W3, hW3⟩ : ∃ W3, W3 = W.putObj (w.heap.size + 1) (L .busy none) := ⟨_, rfl⟩
    have hl3 : W3.heap[w.heap.size + 1]? = some (L .busy none) := by rw [hW3]; exact World.putObj_heap_same hlw
    have hk3 : W3.heap[w.heap.size]? = some (.deferred (some [])) := by rw [hW3]; exact (World.putObj_heap_other (by omega)).trans hk
    have hi3 : I pre W3 := by rw [hW3]; exact hI _ _ _ _ hi (grownBy_putObj' W _ _) fun r e => .inr (put (st' := .ready) (pe' := none) hl r e)
    have low3 : ∀ b, bs b → W3.heap[b]? = W.heap[b]? := fun b hb => by rw [hW3]; exact World.putObj_heap_other (by have := hbs b hb; omega)
    refine ⟨W3, by rw [hW3, hL]; exact hb, wpIn_mono (hbody _ pre x post W3 hpost hi3) ?_⟩
    have s3 : W3.heap.size = W.heap.size := by rw [hW3]; simp
    rintro e a₂ W4 hp
    cases e with
    | normal =>
      obtain ⟨q1, q2, q3⟩ := hp
      have hl4 := q1.same _ _ hl3 (hLc _ _)
      have hk4 := q1.same _ _ hk3 rfl
      have hl4' : W4.heap[w.heap.size + 1]? = some (.loop { state := .busy, pending := none, fn, tmps := a.tmps, params := ps, assign, body, defers := w.heap.size }) := by rw [hl4, hL]
      have he := run_endRound (P := P) none hl4'
      refine ⟨_, _, he, .inl ⟨rfl, ⟨hI _ _ _ _ q3 (grownBy_putObj' W4 _ _) fun r e => .inr (put (st' := .ready) (pe' := none) hl4 r e), ?_, (World.putObj_heap_other (by omega)).trans hk4⟩, ?_, ?_⟩⟩
      · rw [World.putObj_heap_same (Array.getElem?_eq_some_iff.1 hl4).1, hL]; rfl
      · have := q1.size
        simp; omega
      · exact fun b hb => (World.putObj_heap_other (by have := hbs b hb; omega)).trans ((q2 b hb).trans (low3 b hb))
    | ret =>
      obtain ⟨q1, q3⟩ := hp
      have hl4 := q1.same _ _ hl3 (hLc _ _)
      have hk4 := q1.same _ _ hk3 rfl
      have hl4' : W4.heap[w.heap.size + 1]? = some (.loop { state := .busy, pending := none, fn, tmps := a.tmps, params := ps, assign, body, defers := w.heap.size }) := by rw [hl4, hL]
      have he := run_endRound (P := P) (some .ret) hl4'
      refine ⟨_, _, he, .inr ⟨rfl, hIx _ _ _ q3 (grownBy_putObj' W4 _ _) (put (st' := .ready) (pe' := none) hl4), ?_, (World.putObj_heap_other (by omega)).trans hk4⟩⟩
      rw [World.putObj_heap_same (Array.getElem?_eq_some_iff.1 hl4).1, hL]; rfl
    | exit id => exact hp.elim
    | goto t => exact hp.elim
    | panic ch => exact hp.elim
    | outgrown => exact hp.elim
  · rintro e W2 ⟨⟨v, rfl⟩, ⟨hi, hl, hk⟩ | ⟨hi, hl, hk⟩⟩
    · have hl' : W2.heap[w.heap.size + 1]? = some (.loop { state := .ready, pending := none, fn, tmps := a.tmps, params := ps, assign, body, defers := w.heap.size }) := by rw [hl, hL]
      exact ⟨none, _, run_endLoop (P := P) hl' (by simp), hdone _ _ (Nat.le_refl _) (hI _ _ _ _ hi (grownBy_putObj' W2 _ _) fun r e => .inr (put (st' := .ready) (pe' := none) hl r e)) ((World.putObj_heap_other (by omega)).trans hk)⟩
    · have hl' : W2.heap[w.heap.size + 1]? = some (.loop { state := .done, pending := some .ret, fn, tmps := a.tmps, params := ps, assign, body, defers := w.heap.size }) := by rw [hl, hL]
      exact ⟨some .ret, _, run_endLoop (P := P) hl' (by simp), hstop _ _ (Nat.le_refl _) (hIx _ _ _ hi (grownBy_putObj' W2 _ _) (put (st' := .ready) (pe' := none) hl)) ((World.putObj_heap_other (by omega)).trans hk)⟩
end Go.Proofs.YtgdpogdgpfjnoaaDoor

namespace Go.Proofs.YtgdpogdgpfjnoaaDoor
open Go Go.RowKit Go.Sort Sx
open Go.Lib hiding intOf
theorem lns_none : ∀ {s : Str}, (10 : UInt8) ∉ s → s ≠ [] → lns s = [s]
  | [], _, h => absurd rfl h
  | b :: s, h, _ => by
    have hb : ¬ b = 10 := fun e => h (by rw [e]; exact List.mem_cons_self ..)
    rw [lns, if_neg hb]
    cases s with
    | nil => rfl
    | cons c r => rw [lns_none (s := c :: r) (fun k => h (List.mem_cons_of_mem _ k)) (by simp)]
theorem lns_some {s : Str} {i : Nat} (h : s[i]? = some 10) (hk : ∀ k, k < i → s[k]? ≠ some 10) : lns s = s.take (i + 1) :: lns (s.drop (i + 1)) := by
  obtain ⟨hi, he⟩ := List.getElem?_eq_some_iff.1 h
  have e : s = s.take i ++ 10 :: s.drop (i + 1) := by
    conv => lhs; rw [← List.take_append_drop i s, List.drop_eq_getElem_cons hi, he]
  have hno : (10 : UInt8) ∉ s.take i := fun k => by
    obtain ⟨j, hj, hj2⟩ := List.mem_iff_getElem.1 k
    have hj' : j < i := by rw [List.length_take] at hj; omega
    refine hk j hj' ?_
    rw [List.getElem_take] at hj2
    rw [List.getElem?_eq_getElem (by omega), hj2]
  have e2 : s.take (i + 1) = s.take i ++ [10] := by rw [List.take_succ_eq_append_getElem hi, he]
  conv => lhs; rw [e]
  rw [lns_at _ hno, e2]
def ln1 (s : Str) : Str × Str := if 0 ≤ Lib.indexByte s 10 then (s.take ((Lib.indexByte s 10).toNat + 1), s.drop ((Lib.indexByte s 10).toNat + 1)) else (s, [])
theorem lns_ln1 {s : Str} (h : s ≠ []) : lns s = (ln1 s).1 :: lns (ln1 s).2 := by
  unfold ln1
  split
  · rename_i h0
    obtain ⟨h1, h2⟩ := Lib.indexByte_some (l := s) (c := 10) (o := (Lib.indexByte s 10).toNat) (by omega)
    exact lns_some h1 h2
  · rename_i h0
    have hg := Lib.indexByte_ge s 10
    have hn := Lib.indexByte_none (l := s) (c := 10) (by omega)
    refine lns_none (fun k => ?_) h
    obtain ⟨j, hj, hj2⟩ := List.mem_iff_getElem.1 k
    exact hn j (by rw [List.getElem?_eq_getElem hj, hj2])
theorem ln1_lt {s : Str} (h : s ≠ []) : (ln1 s).2.length < s.length := by
  have hp : 0 < s.length := List.length_pos_iff.2 h
  unfold ln1
  split
  · simp only [List.length_drop]; omega
  · exact hp
theorem ln1_le (s : Str) : (ln1 s).1.length ≤ s.length := by
  unfold ln1
  split
  · simp only [List.length_take]; omega
  · exact Nat.le_refl _
theorem lns_each : ∀ {s x : Str}, x ∈ lns s → x.length ≤ s.length := by
  intro s
  induction hn : s.length using Nat.strongRecOn generalizing s with
  | _ n ih =>
    intro x hx
    by_cases h : s = []
    · subst h; cases hx
    · rw [lns_ln1 h] at hx
      rcases List.mem_cons.1 hx with rfl | hx
      · rw [← hn]; exact ln1_le s
      · have h1 := ln1_lt h
        have := ih (ln1 s).2.length (by omega) (s := (ln1 s).2) rfl hx
        omega
theorem lns_len : ∀ {s : Str}, (lns s).length ≤ s.length := by
  intro s
  induction hn : s.length using Nat.strongRecOn generalizing s with
  | _ n ih =>
    by_cases h : s = []
    · subst h; exact Nat.zero_le _
    · rw [lns_ln1 h, List.length_cons]
      have h1 := ln1_lt h
      have := ih (ln1 s).2.length (by omega) (s := (ln1 s).2) rfl
      omega
def pstep (m : Md) (x : Str) : Option Md :=
  if (spl 32 (trimN x)).headD [] = wNow ∧ (spl 32 (trimN x)).length = 2 then (if (readV ((spl 32 (trimN x)).getD 1 [])).2 = 0 then some ⟨(readV ((spl 32 (trimN x)).getD 1 [])).1.1, (readV ((spl 32 (trimN x)).getD 1 [])).1.2, m.l⟩ else none)
  else match rdPt wholeV (spl 32 (trimN x)).tail with | some p => some ⟨m.n, m.d, m.l ++ [p]⟩ | none => none
theorem prsL_cons (m : Md) (x : Str) (r : List Str) : prsL m (x :: r) = (pstep m x).bind fun m => prsL m r := by
  rw [prsL]
  unfold pstep
  split
  · split <;> rfl
  · cases rdPt wholeV (spl 32 (trimN x)).tail <;> rfl
theorem prsL_app : ∀ (a b : List Str) (m : Md), prsL m (a ++ b) = (prsL m a).bind fun m => prsL m b
  | [], b, m => by rw [List.nil_append, prsL]; rfl
  | x :: a, b, m => by
    rw [List.cons_append, prsL_cons, prsL_cons]
    cases pstep m x with
    | none => rfl
    | some m' => exact prsL_app a b m'
theorem prsL_one (a : List Str) (x : Str) (m m' : Md) (h : prsL m a = some m') : prsL m (a ++ [x]) = pstep m' x := by
  rw [prsL_app, h]
  show prsL m' [x] = _
  rw [prsL_cons]
  cases pstep m' x with
  | none => rfl
  | some m2 => show prsL m2 [] = some m2; rw [prsL]
theorem prsL_stop (a : List Str) (x : Str) (r : List Str) (m m' : Md) (h : prsL m a = some m') (h2 : pstep m' x = none) : prsL m (a ++ x :: r) = none := by
  rw [prsL_app, h]
  show prsL m' (x :: r) = _
  rw [prsL_cons, h2]; rfl
end Go.Proofs.YtgdpogdgpfjnoaaDoor

namespace Go.Proofs.YtgdpogdgpfjnoaaDoor
open Go Go.RowKit Go.Sort Sx
open Go.Lib hiding intOf
def strAt (b : Nat) (W : World) : Nat := match W.cell? ⟨b, 0, none⟩ with
  | some (.string z) => z.size
  | _ => 0
theorem strAt_of {b : Nat} {W : World} {r : Str} (h : W.cell? ⟨b, 0, none⟩ = some (bstr r)) : strAt b W = r.length := by unfold strAt; rw [h]; rfl
theorem grownBy_drew (W : World) : W.grownBy W.drew none := ⟨rfl, rfl, rfl, Nat.le_refl _, fun _ _ _ => rfl⟩
theorem ln1_yes {r : Str} (h : 0 ≤ Lib.indexByte r 10) : ln1 r = (r.take ((Lib.indexByte r 10).toNat + 1), r.drop ((Lib.indexByte r 10).toNat + 1)) := if_pos h
theorem ln1_no {r : Str} (h : ¬ 0 ≤ Lib.indexByte r 10) : ln1 r = (r, []) := if_neg h
set_option maxRecDepth 100000 in
set_option maxHeartbeats 4000000 in
theorem lines_ends (s : Str) (b n : Nat) (w : World) (hb : Boxed w b 9 (bstr s)) (hs : s.length ≤ 1000000) (hn : 1 ≤ n) :
    SeqEnds n Tryd.prog 62 #[.pointer (some ⟨b, 0, none⟩)] (fun x : Str => #[bstr x]) (fun k => k = b) (lns s) w := fun lp J Jx W hsz hbs hJ hY h0 => by
  have hbW : Boxed W b 9 (bstr s) := (hbs b rfl).trans hb
  have c0 := hbW.cell
  have hf1 : Fence.wide.fn 63 := trivial
  refine callsIn_of_wp Tryd.func62 rfl trivial ?_ rfl
  simp only [Tryd.ntmps62, List.size_toArray, List.length_cons, List.length_nil, Nat.reduceAdd, Nat.reduceSub, Array.replicate_succ, Array.replicate_zero, List.push_toArray, List.append_toArray, List.nil_append, List.cons_append]
  gi_wp2
  gi_loopw [3] (fun x W' => ∃ pre r, pre ++ lns r = lns s ∧ r.length ≤ s.length ∧ J pre W' ∧ Boxed W' b 9 (bstr r)) (fun _ W' => strAt b W')
  case atStart => exact ⟨[], s, rfl, Nat.le_refl _, h0, hbW⟩
  case round =>
    obtain ⟨pre, r, hpr, hrl, hJp, hbx⟩ := hrel
    have c1 := hbx.cell
    have fz := hbx.frozen
    by_cases hr : r = []
    · subst hr
      gi_wp2
      go_end0
      exact ⟨⟨_, rfl⟩, .inl (by rw [← hpr]; simpa [lns] using hJp)⟩
    · have hp : 0 < r.length := List.length_pos_iff.2 hr
      have hlen : (r.length : Int) > 0 := by omega
      have hq := lns_ln1 hr
      have hIdx := fun W' => callsIn_wide (n := n - 1).2 (Tryd.strings_IndexByte ⟨r.toArray⟩ 10 W')
      obtain ⟨x, hx⟩ : ∃ x, x = Lib.indexByte r 10 := ⟨_, rfl⟩
      have hIdx' : ∀ W', CallsIn Fence.wide (n - 1) Tryd.prog 63 #[bstr r, .int .u8 10] W' fun e w' => e = .returned (.int .i64 x) ∧ w' = W' := by rw [hx]; exact hIdx
      clear hIdx
      by_cases hi : 0 ≤ x
      · rw [ln1_yes (by omega)] at hq
        obtain ⟨hi1, hi2⟩ := Lib.indexByte_some (l := r) (c := 10) (o := x.toNat) (by omega)
        have hlt := (List.getElem?_eq_some_iff.1 hi1).1
        have hm : decide (x ≥ 0) = true := decide_eq_true hi
        rw [← hx] at hq
        clear hx
        have hw1 : IntKind.i64.wrap (x + 1) = x + 1 := by rw [IntKind.wrap_i64]; omega
        have hx1 : (0 : Int) ≤ x + 1 := by omega
        have hx2 : (x + 1).toNat = x.toNat + 1 := by omega
        have hx3 : x + 1 ≤ (r.length : Int) := by omega
        have hx4 : x.toNat + 1 ≤ r.length := by omega
        gi_wp2_with (gi_at_call 63; (with_reducible refine CallsIn.mono (hIdx' _) ?_); rintro e W1 ⟨rfl, rfl⟩)
        gi_region
        have e1 : (⟨r.toArray⟩ : ByteArray).extract 0 (x.toNat + 1) = ⟨(r.take (x.toNat + 1)).toArray⟩ := by rw [str_extract, List.drop_zero]
        have e2 : (⟨r.toArray⟩ : ByteArray).extract (x.toNat + 1) r.length = ⟨(r.drop (x.toNat + 1)).toArray⟩ := by rw [str_extract, List.take_length]
        rw [e1, e2]
        obtain ⟨l, hl⟩ : ∃ l, l = r.take (x.toNat + 1) := ⟨_, rfl⟩
        obtain ⟨q, hq2⟩ : ∃ q, q = r.drop (x.toNat + 1) := ⟨_, rfl⟩
        have hql : q.length < r.length := by rw [hq2, List.length_drop]; omega
        rw [← hl, ← hq2] at hq ⊢
        clear e1 e2 hl hq2
        obtain ⟨W2, hW2⟩ : ∃ W2, W2 = (W1.setCell ⟨b, 0, none⟩ (bstr q)).drew := ⟨_, rfl⟩
        have hJ2 : J pre W2 := by rw [hW2]; exact hJ _ _ _ none (hJ _ _ _ _ hJp (grownBy_setCell' W1 b (bstr q)) (fun r e => by injection e with e; exact e.symm)) (grownBy_drew _) (fun r e => by cases e)
        have hb2 : Boxed W2 b 9 (bstr q) := by rw [hW2]; exact hbx.set _
        have c2 := hb2.cell
        obtain ⟨fn, tmps, assign, body, hy, hR⟩ := hY pre l (lns q) _ (by rw [← hpr, hq]) hJ2
        rw [← hW2]
        clear hW2
        gi_wp2
        refine hR.mono ?_
        rintro e W3 (⟨rfl, hJ5, hs5, hk5⟩ | ⟨rfl, hx5⟩)
        · gi_wp2
          go_roundw
          case rel => exact ⟨pre ++ [l], q, by rw [← hpr, hq]; simp, by omega, hJ5, (hk5 b rfl).trans hb2⟩
          case measure => rw [strAt_of c1, strAt_of (Boxed.cell (t := 9) ((hk5 b rfl).trans hb2))]; exact hql
        · gi_wp2
          refine bodyPost_ret (results_none rfl _ _ _) rfl ?_
          exact ⟨⟨_, rfl⟩, .inr hx5⟩
      · rw [ln1_no (by omega)] at hq
        have hn : decide (x ≥ 0) = false := decide_eq_false hi
        clear hx
        gi_wp2_with (gi_at_call 63; (with_reducible refine CallsIn.mono (hIdx' _) ?_); rintro e W1 ⟨rfl, rfl⟩; have hJ2 := hJ _ _ _ _ hJp (grownBy_setCell' W1 b (.string ⟨#[]⟩)) (fun r e => by injection e with e; exact e.symm); have hb2 : Boxed (W1.setCell ⟨b, 0, none⟩ (.string ⟨#[]⟩)) b 9 (bstr []) := hbx.set _; obtain ⟨fn, tmps, assign, body, hy, hR⟩ := hY pre r (lns []) _ (by rw [← hpr, hq]) hJ2)
        refine hR.mono ?_
        rintro e W3 (⟨rfl, hJ5, hs5, hk5⟩ | ⟨rfl, hx5⟩)
        · gi_wp2
          go_roundw
          case rel => exact ⟨pre ++ [r], [], by rw [← hpr, hq]; simp, Nat.zero_le _, hJ5, (hk5 b rfl).trans hb2⟩
          case measure => rw [strAt_of c1, strAt_of (Boxed.cell (t := 9) ((hk5 b rfl).trans hb2))]; exact hp
        · gi_wp2
          refine bodyPost_ret (results_none rfl _ _ _) rfl ?_
          exact ⟨⟨_, rfl⟩, .inr hx5⟩
end Go.Proofs.YtgdpogdgpfjnoaaDoor

namespace Go.Proofs.YtgdpogdgpfjnoaaDoor
open Go Go.RowKit Go.Sort Sx
open Go.Lib hiding intOf
theorem set3 {W : World} {b : Nat} {x y z : Value} {T : TypeId} (v : Value) (h : W.heap[b]? = some (.cells #[x, y, z] T (0, 0))) :
    (W.setCell ⟨b, 0, none⟩ v).heap[b]? = some (.cells #[v, y, z] T (0, 0)) ∧ (W.setCell ⟨b, 1, none⟩ v).heap[b]? = some (.cells #[x, v, z] T (0, 0)) ∧ (W.setCell ⟨b, 2, none⟩ v).heap[b]? = some (.cells #[x, y, v] T (0, 0)) := by
  obtain ⟨hlt, hk⟩ := Array.getElem?_eq_some_iff.1 h
  refine ⟨?_, ?_, ?_⟩
  all_goals
    show (W.heap.modify b _)[b]? = _
    rw [Array.getElem?_eq_getElem (by rw [Array.size_modify]; exact hlt), Array.getElem_modify_self, hk]
    rfl
theorem setCell_other {W : World} {a : Addr} {v : Value} {k : Nat} (h : k ≠ a.block) : (W.setCell a v).heap[k]? = W.heap[k]? := Below.heap_setCell W a v k h
theorem cells3 {W : World} {b : Nat} {x y z : Value} {T : TypeId} (h : W.heap[b]? = some (.cells #[x, y, z] T (0, 0))) :
    W.cell? ⟨b, 0, none⟩ = some x ∧ W.cell? ⟨b, 1, none⟩ = some y ∧ W.cell? ⟨b, 2, none⟩ = some z ∧ W.frozen? ⟨b, 0, none⟩ = false ∧ W.frozen? ⟨b, 1, none⟩ = false ∧ W.frozen? ⟨b, 2, none⟩ = false := by
  refine ⟨?_, ?_, ?_, ?_, ?_, ?_⟩ <;> simp [World.cell?, World.frozen?, h]
def Pt.vals (p : Pt) : List Value := [.int .i64 p.id, .int .i64 p.a, .int .i64 p.b]
def in64 (n : Int) : Prop := -9223372036854775808 ≤ n ∧ n ≤ 9223372036854775807
def MdIn (m : Md) : Prop := in64 m.n ∧ in64 m.d ∧ ∀ p ∈ m.l, in64 p.id ∧ in64 p.a ∧ in64 p.b
def PrsI (w : World) (pre : List Str) (W : World) : Prop :=
  (∃ m v, prsL mdZ pre = some m ∧ MdIn m ∧ m.l.length ≤ pre.length ∧ W.heap[w.heap.size + 2]? = some (.cells #[.int .i64 m.n, .int .i64 m.d, v] 28 (0, 0)) ∧ W.ownsRow (w.heap.size + 4) 46 3 v m.l.length (m.l.flatMap Pt.vals)) ∧
  W.heap[w.heap.size]? = some (.cells #[.int .i64 0, .int .i64 0, .slice none 0 0] 28 (0, 0)) ∧ Boxed W (w.heap.size + 1) 31 (.int .i64 0) ∧ w.heap.size + 4 ≤ W.heap.size ∧ Below w.heap.size w W
def PrsX (s : Str) (w : World) (W : World) : Prop :=
  prsL mdZ (lns s) = none ∧ W.heap[w.heap.size]? = some (.cells #[.int .i64 0, .int .i64 0, .slice none 0 0] 28 (0, 0)) ∧ Boxed W (w.heap.size + 1) 31 (.int .i64 12) ∧ w.heap.size + 4 ≤ W.heap.size ∧ Below w.heap.size w W
theorem below_row {n0 : Nat} {w W W' : World} {row : Option Nat} (h : Below n0 w W) (hn : n0 ≤ W.heap.size) (hg : W.grownBy W' row) (hr : ∀ r, row = some r → n0 ≤ r) : Below n0 w W' := h.grown hg hn hr
theorem prsI_keep {w : World} {pre : List Str} {A B : World} {row : Option Nat} (h : PrsI w pre A) (hg : A.grownBy B row)
    (hr : ∀ r, row = some r → r = w.heap.size + 3 ∨ (w.heap.size + 4 ≤ r ∧ ∃ o : Obj, A.heap[r]? = some o ∧ o.isCells = false)) : PrsI w pre B := by
  obtain ⟨⟨m, v, h1, h2, h3, h4, h5⟩, h6, h7, h8, h9⟩ := h
  have kp : ∀ {k : Nat} {o : Obj}, k < w.heap.size + 3 → A.heap[k]? = some o → B.heap[k]? = some o := fun {k o} hk ho => (hg.block k (Array.getElem?_eq_some_iff.1 ho).1 fun e => by
    rcases hr k e.symm with h | ⟨h, _⟩ <;> omega).trans ho
  refine ⟨⟨m, v, h1, h2, h3, kp (by omega) h4, h5.kept hg ?_⟩, kp (by omega) h6, kp (by omega) h7, Nat.le_trans h8 hg.size, below_row h9 (by omega) hg fun r e => by rcases hr r e with h | ⟨h, _⟩ <;> omega⟩
  rcases h5.2 with ⟨rfl, _⟩ | ⟨g, cap, cur, rfl, hb, hgb, _⟩
  · exact .inl rfl
  · refine .inr fun e' => ?_
    have e2 : row = some g := by simpa [Value.ownBlock] using e'.symm
    rcases hr g e2 with h | ⟨_, o, ho, hc⟩
    · omega
    · rw [hgb] at ho; cases ho; cases hc
theorem prsX_keep {s : Str} {w : World} {A B : World} {row : Option Nat} (h : PrsX s w A) (hg : A.grownBy B row)
    (hr : ∀ r, row = some r → w.heap.size + 4 ≤ r ∧ ∃ o : Obj, A.heap[r]? = some o ∧ o.isCells = false) : PrsX s w B := by
  obtain ⟨h1, h6, h7, h8, h9⟩ := h
  have kp : ∀ {k : Nat} {o : Obj}, k < w.heap.size + 3 → A.heap[k]? = some o → B.heap[k]? = some o := fun {k o} hk ho => (hg.block k (Array.getElem?_eq_some_iff.1 ho).1 fun e => by
    have := (hr k e.symm).1; omega).trans ho
  exact ⟨h1, kp (by omega) h6, kp (by omega) h7, Nat.le_trans h8 hg.size, below_row h9 (by omega) hg fun r e => by have := (hr r e).1; omega⟩
theorem setCell_o {W : World} {v : Value} {k b j : Nat} {o : Obj} (h : k ≠ b) (ho : W.heap[k]? = some o) : (W.setCell ⟨b, j, none⟩ v).heap[k]? = some o := (setCell_other h).trans ho
def stopW (n0 : Nat) (W : World) : World := (((W.setCell ⟨n0, 0, none⟩ (.int .i64 0)).setCell ⟨n0, 1, none⟩ (.int .i64 0)).setCell ⟨n0, 2, none⟩ (.slice none 0 0)).setCell ⟨n0 + 1, 0, none⟩ (.int .i64 12)
theorem ko_stop (n0 : Nat) (W : World) : KeepsOthers W (stopW n0 W) := (((KeepsOthers.setCell _ _ _).trans (KeepsOthers.setCell _ _ _)).trans (KeepsOthers.setCell _ _ _)).trans (KeepsOthers.setCell _ _ _)
theorem prsX_stop0 {s : Str} {w W : World} (h6 : W.heap[w.heap.size]? = some (.cells #[.int .i64 0, .int .i64 0, .slice none 0 0] 28 (0, 0))) (h7 : Boxed W (w.heap.size + 1) 31 (.int .i64 0)) (h8 : w.heap.size + 4 ≤ W.heap.size) (h9 : Below w.heap.size w W) :
    (stopW w.heap.size W).heap[w.heap.size]? = some (.cells #[.int .i64 0, .int .i64 0, .slice none 0 0] 28 (0, 0)) ∧ Boxed (stopW w.heap.size W) (w.heap.size + 1) 31 (.int .i64 12) ∧ w.heap.size + 4 ≤ (stopW w.heap.size W).heap.size ∧ Below w.heap.size w (stopW w.heap.size W) := by
  refine ⟨?_, ?_, Nat.le_trans h8 (ko_stop _ _).size, ?_⟩
  · exact setCell_o (by omega) (set3 _ (set3 _ (set3 _ h6).1).2.1).2.2
  · refine Boxed.set _ (v := .int .i64 0) ?_
    exact setCell_o (by omega) (setCell_o (by omega) (setCell_o (by omega) h7))
  · exact (((h9.setCell (Nat.le_refl _) _).setCell (Nat.le_refl _) _).setCell (Nat.le_refl _) _).setCell (Nat.le_succ _) _
theorem prsX_stop {s : Str} {w W : World} (hp : prsL mdZ (lns s) = none) (h6 : W.heap[w.heap.size]? = some (.cells #[.int .i64 0, .int .i64 0, .slice none 0 0] 28 (0, 0))) (h7 : Boxed W (w.heap.size + 1) 31 (.int .i64 0)) (h8 : w.heap.size + 4 ≤ W.heap.size) (h9 : Below w.heap.size w W) : PrsX s w (stopW w.heap.size W) := ⟨hp, prsX_stop0 (s := s) h6 h7 h8 h9⟩
def okW (n0 : Nat) (W : World) (x y z : Value) : World := (((W.setCell ⟨n0, 0, none⟩ x).setCell ⟨n0, 1, none⟩ y).setCell ⟨n0, 2, none⟩ z).setCell ⟨n0 + 1, 0, none⟩ (.int .i64 0)
theorem ko_ok (n0 : Nat) (W : World) (x y z : Value) : KeepsOthers W (okW n0 W x y z) := (((KeepsOthers.setCell _ _ _).trans (KeepsOthers.setCell _ _ _)).trans (KeepsOthers.setCell _ _ _)).trans (KeepsOthers.setCell _ _ _)
theorem prs_ok {w W : World} (x y z : Value) (h6 : W.heap[w.heap.size]? = some (.cells #[.int .i64 0, .int .i64 0, .slice none 0 0] 28 (0, 0))) (h7 : Boxed W (w.heap.size + 1) 31 (.int .i64 0)) (h8 : w.heap.size + 4 ≤ W.heap.size) (h9 : Below w.heap.size w W) :
    (okW w.heap.size W x y z).heap[w.heap.size]? = some (.cells #[x, y, z] 28 (0, 0)) ∧ Boxed (okW w.heap.size W x y z) (w.heap.size + 1) 31 (.int .i64 0) ∧ w.heap.size + 4 ≤ (okW w.heap.size W x y z).heap.size ∧ Below w.heap.size w (okW w.heap.size W x y z) := by
  refine ⟨?_, ?_, Nat.le_trans h8 (ko_ok _ _ _ _ _).size, ?_⟩
  · exact setCell_o (by omega) (set3 _ (set3 _ (set3 _ h6).1).2.1).2.2
  · refine Boxed.set _ (v := .int .i64 0) ?_
    exact setCell_o (by omega) (setCell_o (by omega) (setCell_o (by omega) h7))
  · exact (((h9.setCell (Nat.le_refl _) _).setCell (Nat.le_refl _) _).setCell (Nat.le_refl _) _).setCell (Nat.le_succ _) _
theorem sLines_in {n : Nat} (s : Str) (w : World) : CallsIn Fence.wide n Tryd.prog 36 #[bstr s] w fun e w' => e = .returned (.func (.func 62) #[] #[.pointer (some ⟨w.heap.size, 0, none⟩)]) ∧ w' = w.alloc (.cells #[bstr s] 9) := by
  refine callsIn_of_wp Tryd.func36 rfl trivial ?_ rfl
  simp only [Tryd.ntmps36, List.size_toArray, List.length_cons, List.length_nil, Nat.reduceAdd, Nat.reduceSub, Array.replicate_succ, Array.replicate_zero, List.push_toArray, List.append_toArray, List.nil_append, List.cons_append]
  gi_wp2
  first | go_ret | refine bodyPost_ret (results_tmp rfl _ _ _) rfl ?_ | refine bodyPost_end (results_tmp rfl _ _ _) rfl ?_
  exact ⟨rfl, rfl⟩
theorem ko_below {W W' : World} (h : Below W.heap.size W W') : KeepsOthers W W' := ⟨h.size, fun k o hk _ => (h.block k (Array.getElem?_eq_some_iff.1 hk).1).trans hk⟩
theorem gb_below {W W' : World} (h : Below W.heap.size W W') : W.grownBy W' none := ⟨h.os, h.tape, h.output, h.size, fun k hk _ => h.block k hk⟩
theorem gb_set (W : World) (a : Addr) (v : Value) : W.grownBy (W.setCell a v) (some a.block) := ⟨rfl, rfl, rfl, (KeepsWalks.setCell W _ v).size, fun k _ hk => Below.heap_setCell _ _ _ k (fun e => hk (by rw [e]))⟩
theorem owns_set {W : World} {base : Nat} {e : TypeId} {size k : Nat} {v : Value} {xs : List Value} (h : W.ownsRow base e size v k xs) (a : Addr) (u : Value) (ha : a.block < base) : (W.setCell a u).ownsRow base e size v k xs := by
  refine h.kept (gb_set W a u) ?_
  rcases h.2 with ⟨rfl, _⟩ | ⟨g, cap, cur, rfl, hb, hgb, _⟩
  · exact .inl rfl
  · refine .inr fun e' => ?_
    have : a.block = g := by simpa [Value.ownBlock] using e'.symm
    omega
theorem owns_below {W W' : World} {base : Nat} {e : TypeId} {size k : Nat} {v : Value} {xs : List Value} (h : W.ownsRow base e size v k xs) (hb : Below W.heap.size W W') : W'.ownsRow base e size v k xs := h.kept (gb_below hb) (by cases hv : v.ownBlock <;> simp)
theorem rep_tail {w : World} {M : Nat → Prop} {a : Str} {l : List Str} {b o c : Nat} (h : Rep w M (strs (a :: l)) (.slice (some ⟨b, o, none⟩) (l.length + 1) c)) (hc : l.length + 1 ≤ c) :
    (c = 1 → Rep w M (strs l) (.slice (some ⟨b, o, none⟩) l.length 0)) ∧ (c ≠ 1 → Rep w M (strs l) (.slice (some ⟨b, o + 1, none⟩) l.length (c - 1))) := by
  have hl : ((a :: l).map fun s => [str s]).length = l.length + 1 := by simp
  rw [← hl] at h
  have := rep_sub h (p := 1) (q := ((a :: l).map fun s => [str s]).length) (m := c) (by rw [hl]; omega) (Nat.le_refl _) (by rw [hl]; exact hc) (Nat.le_refl _)
  rw [List.take_length, hl] at this
  refine ⟨fun e => ?_, fun e => ?_⟩
  · subst e
    rw [if_pos rfl] at this
    exact this
  · rw [if_neg e] at this
    exact this
theorem fn_in {n : Nat} {f : Nat} {args : List DC} {r : DV} (hcall : ∀ (vs : Array Value) (w : World), (callFunc f vs).run Tryd.prog w = .ok (.enter f vs) w) (h : FnOK Tryd.prog f args r) {w : World} (hg : Gd w) {vs : List Value} (hvs : DCsR w (fun _ => False) args vs) :
    CallsIn Fence.wide n Tryd.prog f vs.toArray w fun e w' => ∃ v, e = .returned v ∧ DVR w' (fun _ => False) r v ∧ Below w.heap.size w w' := by
  refine callsIn_wide.2 ?_
  rcases h w (fun _ => False) vs ⟨fun _ h => h.elim, hg, fun _ h => h.elim⟩ hvs with ⟨g, hg, hc⟩ | ⟨u, hg, _⟩
  · have : g = f := by
      rw [hcall] at hg
      injection hg with h1
      injection h1 with h1
      exact h1.symm
    subst this
    exact hc
  · rw [hcall] at hg
    cases hg
theorem fn_in' {n : Nat} {f : Nat} {args : List DC} {r : DV} {v : Value} (hcall : ∀ (vs : Array Value) (w : World), (callFunc f vs).run Tryd.prog w = .ok (.enter f vs) w) (hr : dv? r = some v) (h : FnOK Tryd.prog f args r) {w : World} (hg : Gd w) {vs : List Value} (hvs : DCsR w (fun _ => False) args vs) :
    CallsIn Fence.wide n Tryd.prog f vs.toArray w fun e w' => e = .returned v ∧ WDV r ∧ Below w.heap.size w w' := by
  refine (fn_in hcall h hg hvs).mono ?_
  rintro e w' ⟨u, rfl, hu, hb⟩
  rw [dv_rel hr] at hu
  rw [hu.1]
  exact ⟨rfl, hu.2, hb⟩
theorem rep_owned {W : World} {n0 : Nat} {v : Value} {l : List Pt} {M : Nat → Prop} (h : W.ownsRow n0 46 3 v l.length (l.flatMap Pt.vals)) (hok : ∀ p ∈ l, in64 p.id ∧ in64 p.a ∧ in64 p.b) (hM : ∀ b, M b → b < n0) : Rep W M (pts l) v := by
  rcases h.2 with ⟨rfl, h0⟩ | ⟨g, cap, cur, rfl, hb, hgb, h1, h2, h3, h4⟩
  · have : l = [] := List.eq_nil_of_length_eq_zero h0
    subst this
    exact .nil 3 none 0 (by decide) (fun _ => rfl)
  · have hl : (l.map Pt.c).length = l.length := List.length_map ..
    have hD : ∀ (l : List Pt), (∀ p ∈ l, in64 p.id ∧ in64 p.a ∧ in64 p.b) → DsR W M (l.map Pt.c).flatten (l.flatMap Pt.vals) := by
      intro l
      induction l with
      | nil => intro _; trivial
      | cons p l ih =>
        intro hok
        obtain ⟨q1, q2, q3⟩ := hok p (List.mem_cons_self ..)
        rw [List.map_cons, List.flatten_cons, List.flatMap_cons]
        exact DsR.append ⟨.v _ rfl q1, .v _ rfl q2, .v _ rfl q3, trivial⟩ (ih fun q hq => hok q (List.mem_cons_of_mem _ hq))
    have := rep_of_row (M := M) (b := g) (off := 0) (cap := cap) (k := 3) (l := l.map Pt.c) (fun x hx => by obtain ⟨p, _, rfl⟩ := List.mem_map.1 hx; rfl) (hD l hok) (fun i hi => by
      rw [Nat.zero_add]
      simp only [World.cell?, hgb]
      rw [← h4] at hi ⊢
      rw [List.length_take] at hi
      rw [List.getElem?_take_of_lt (by omega)]
      simp) (by rw [hl]; exact h1) (by unfold maxLen at h2; omega) (fun h => by have := hM g h; omega) (Array.getElem?_eq_some_iff.1 hgb).1
    rw [hl] at this
    exact this
end Go.Proofs.YtgdpogdgpfjnoaaDoor
