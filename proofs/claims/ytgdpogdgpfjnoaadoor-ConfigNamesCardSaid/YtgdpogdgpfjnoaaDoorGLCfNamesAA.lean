import Derived.Test.YtgdpogdgpfjnoaaDoorGCAH
import Derived.Test.YtgdpogdgpfjnoaaDoorGCAI
import Derived.ScopeJumps
import Derived.Test.YtgdpogdgpfjnoaaDoorChecked
import Derived.Test.YtgdpogdgpfjnoaaDoorGCAJ
import Derived.Test.YtgdpogdgpfjnoaaDoorGCAM
import Derived.Laws.BytesString
import Derived.Test.YtgdpogdgpfjnoaaDoorGCAP
import Derived.Test.YtgdpogdgpfjnoaaDoorGCAL
set_option linter.all false
namespace Go.Proofs.YtgdpogdgpfjnoaaDoor
open Go Go.RowKit
namespace Sx
def nmA : List At → Nat → Nat → Option (Nat × List At)
  | .d (.nil k) :: l, 0, n => some (k, .osl n 0 :: l)
  | a :: l, j + 1, n => match nmA l j n with | some (k, l') => some (k, a :: l') | none => none
  | _, _, _ => none
section
variable {P : Program} {C M0 : Nat → Prop} {w0 w : World} {sz : Nat} {ρ : Nat → Nm} {E : Env} {H : Hp} {a : Act} {Γ : Cfg}
theorem nmA_rel {ρ : Nat → Nm} {M : Nat → Prop} : ∀ {l l' : List At} {j n k : Nat} {vs : List Value}, nmA l j n = some (k, l') → ρ n = ⟨false, 0, 0, 0, 0⟩ → AtsR ρ w M l vs → AtsR ρ w M l' vs ∧ ∀ m ∈ namesA l', m ∈ namesA l ∨ m = n
  | .d (.nil k0) :: l, l', 0, n, k, v :: vs, h, hn, hR => by
    simp only [nmA, Option.some.injEq, Prod.mk.injEq] at h
    obtain ⟨rfl, rfl⟩ := h
    refine ⟨⟨?_, hR.2⟩, fun m hm => ?_⟩
    · have h1 : Rep w M (.nil k0) v := hR.1
      cases h1
      refine ⟨by rw [hn], rfl, by rw [hn]; exact Nat.le_refl _, fun _ => ⟨none, by rw [hn], fun h => by rw [hn] at h; exact absurd h (Nat.lt_irrefl _)⟩⟩
    · simp only [namesA, List.flatMap_cons, At.names, List.nil_append, List.mem_append, List.mem_singleton, List.mem_flatMap] at hm ⊢
      rcases hm with hm | hm
      · exact .inr hm
      · exact .inl hm
  | a :: l, l', j + 1, n, k, v :: vs, h, hn, hR => by
    simp only [nmA] at h
    split at h
    · rename_i k1 l1 h1
      simp only [Option.some.injEq, Prod.mk.injEq] at h
      obtain ⟨rfl, rfl⟩ := h
      obtain ⟨h2, h3⟩ := nmA_rel h1 hn hR.2
      refine ⟨⟨hR.1, h2⟩, fun m hm => ?_⟩
      simp only [namesA, List.flatMap_cons, List.mem_append] at hm ⊢
      rcases hm with hm | hm
      · exact .inl (.inl hm)
      · rcases h3 m hm with h | h
        · exact .inl (.inr h)
        · exact .inr h
    · cases h
  | [], _, _, _, _, _ :: _, _, _, hR => hR.elim
  | _ :: _, _, _, _, _, [], _, _, hR => hR.elim
  | [], _, 0, _, _, [], h, _, _ => by simp [nmA] at h
  | [], _, _ + 1, _, _, [], h, _, _ => by simp [nmA] at h
  | .d (.v _) :: _, _, 0, _, _, _ :: _, h, _, _ => by simp [nmA] at h
  | .d (.emp _) :: _, _, 0, _, _, _ :: _, h, _, _ => by simp [nmA] at h
  | .d (.list _ _) :: _, _, 0, _, _, _ :: _, h, _, _ => by simp [nmA] at h
  | .d (.ref _) :: _, _, 0, _, _, _ :: _, h, _, _ => by simp [nmA] at h
  | .d (.clo _ _) :: _, _, 0, _, _, _ :: _, h, _, _ => by simp [nmA] at h
  | .ptr _ _ :: _, _, 0, _, _, _ :: _, h, _, _ => by simp [nmA] at h
  | .osl _ _ :: _, _, 0, _, _, _ :: _, h, _, _ => by simp [nmA] at h
  | .rp _ _ _ _ _ :: _, _, 0, _, _, _ :: _, h, _, _ => by simp [nmA] at h
  | .ep _ _ _ _ :: _, _, 0, _, _, _ :: _, h, _, _ => by simp [nmA] at h
  | .fn _ _ :: _, _, 0, _, _, _ :: _, h, _, _ => by simp [nmA] at h
theorem Rel.nameRow (R : Rel C M0 w0 sz ρ E H a w) {n k : Nat} (hf : look H n = none) (hlt : n < sz ∨ n < 1000 ∨ ∀ b, ¬ Pin C w0.heap.size n b) : Rel C M0 w0 sz (upd ρ n ⟨false, 0, 0, 0, 0⟩) E ((n, .row k [] 0) :: H) a w :=
  R.fresh (b := .row k [] 0) (m := ⟨false, 0, 0, 0, 0⟩) hf hlt rfl rfl rfl (Nat.le_refl _) (.inr (Nat.le_refl _)) (fun _ _ => rfl) (fun h => by simp [Blk.real] at h)
    (fun _ _ _ => ⟨⟨by simp, rfl, fun _ => rfl, rfl, rfl⟩, fun h => by simp [Blk.real] at h⟩) (by simp [Blk.names])
end
end Sx
end Go.Proofs.YtgdpogdgpfjnoaaDoor

namespace Go.Proofs.YtgdpogdgpfjnoaaDoor
open Go Go.RowKit
namespace Sx
section
variable {P : Program} {C M0 : Nat → Prop} {w0 w : World} {sz : Nat} {ρ : Nat → Nm} {E : Env} {H : Hp} {a : Act} {Γ : Cfg}
section
variable {ns : List Nat} {M' : Nat → Prop}
end
def nmB : Blk → Nat → Nat → Option (Nat × Blk)
  | .own l, j, n => match nmA l j n with | some (k, l') => some (k, .own l') | none => none
  | _, _, _ => none
theorem loop_nameH (m j n : Nat) {dm : Bool} {body : Code} {k : Exit → Env → Hp → Prop} {b b' : Blk} {kk : Nat} (hx : look H m = some b) (hn : nmB b j n = some (kk, b')) (hf : look H n = none) (h : LoopP P sz dm body E ((m, b') :: (n, .row kk [] 0) :: H) k) (hlt : Nat.ble (n + 1) 1000 = true := by rfl) : LoopP P sz dm body E H k := by
  refine ⟨fun C M0 w0 ρ a w Q hdm R hQ => h.run C M0 w0 (upd ρ n ⟨false, 0, 0, 0, 0⟩) a w Q hdm ?_ hQ⟩
  have R1 := R.nameRow (k := kk) hf (.inr (.inl (Nat.le_of_ble_eq_true hlt)))
  have hmn : m ≠ n := fun e => by rw [e, hf] at hx; cases hx
  have hlk : look ((n, Blk.row kk [] 0) :: H) m = some b := by rw [look_cons, if_neg (fun e => hmn e.symm)]; exact hx
  unfold nmB at hn
  split at hn
  · rename_i l
    split at hn
    · rename_i k1 l1 h2
      simp only [Option.some.injEq, Prod.mk.injEq] at hn
      obtain ⟨rfl, rfl⟩ := hn
      obtain ⟨cs, hcs, hC⟩ := (R1.blk m _ hlk).2 rfl
      obtain ⟨h3, h4⟩ := nmA_rel (w := w) h2 (upd_same _ _ _) hC
      have hMeq : ∀ b, Mof M0 (upd ρ n ⟨false, 0, 0, 0, 0⟩) ((m, .own l1) :: (n, .row k1 [] 0) :: H) b → Mof M0 (upd ρ n ⟨false, 0, 0, 0, 0⟩) ((n, .row k1 [] 0) :: H) b := by
        rintro b (h | ⟨i, x, hi, hr, e⟩)
        · exact .inl h
        · rw [look_cons] at hi
          split at hi
          · rename_i e'; subst e'; exact .inr ⟨m, _, hlk, rfl, e⟩
          · exact .inr ⟨i, x, hi, hr, e⟩
      have hR := R1.known (b := .own l1) (m := upd ρ n ⟨false, 0, 0, 0, 0⟩ m) (w' := w) hlk (.inl rfl) rfl rfl rfl (Nat.le_refl _) (.inr (Nat.le_refl _)) (fun _ _ _ => rfl) (fun _ => .inl ⟨rfl, rfl⟩)
        (fun g1 g2 => ⟨trivial, fun _ => ⟨cs, hcs, by rw [upd_self]; exact AtsR.mono (.refl _ w) (fun b _ => hMeq b) h3⟩⟩) (fun i hi => by
          rcases h4 i hi with h | h
          · exact R1.clH m _ hlk i h
          · rw [h, look_cons, if_pos rfl]; rfl)
      rwa [upd_self] at hR
    · cases hn
  · cases hn
end
end Sx
end Go.Proofs.YtgdpogdgpfjnoaaDoor

namespace Go.Proofs.YtgdpogdgpfjnoaaDoor
open Go Go.RowKit
namespace Sx
section
variable {P : Program} {C M0 : Nat → Prop} {w0 w : World} {sz : Nat} {ρ : Nat → Nm} {E : Env} {H : Hp} {a : Act} {Γ : Cfg}
theorem zi1 {k : IntKind} {a b : Int} (h : a = b := by first | omega | (rw [IntWalk.i64_in _ (by omega)]; omega) | (simp; done)) : (some (sV (.int k a)) : Option SV) = some (sV (.int k b)) := ent_i h
theorem zb1 {a b : Bool} (h : a = b := by first | omega | (rw [IntWalk.i64_in _ (by omega)]; omega) | (simp; done)) : (some (sV (.bool a)) : Option SV) = some (sV (.bool b)) := ent_b h
end
end Sx
end Go.Proofs.YtgdpogdgpfjnoaaDoor

namespace Go.Proofs.YtgdpogdgpfjnoaaDoor
open Go.RowKit Go.Sort
def U64 (n : Nat) : Prop := n < 18446744073709551616
end Go.Proofs.YtgdpogdgpfjnoaaDoor

namespace Go.Proofs.YtgdpogdgpfjnoaaDoor
open Go Go.RowKit Go.Sort Sx
open Go.Lib hiding intOf
theorem foldl_push (ns : List Int) : ∀ (a : ByteArray), ns.foldl (fun r n => r.push (UInt8.ofNat n.toNat)) a = ⟨(a.data.toList ++ ns.map fun n => UInt8.ofNat n.toNat).toArray⟩ := by
  induction ns with
  | nil => intro a; apply ByteArray.ext; simp
  | cons n ns ih =>
    intro a
    rw [List.foldl_cons, ih]
    apply ByteArray.ext
    simp [ByteArray.push]
theorem rep_v {w : World} {M : Nat → Prop} {x v : Value} (h : Rep w M (.v x) v) : v = x := by cases h; rfl
theorem conv_bytes {w : World} {M : Nat → Prop} {l : List Int} {v : Value} (h0 : l ≠ []) (h : Rep w M (.list 1 (l.map fun x => [.v (.int .u8 x)])) v) : (convert 49 9 v).run Tryd.prog w = .ok (bstr (l.map fun n => UInt8.ofNat n.toNat)) w := by
  obtain ⟨L, hL⟩ : ∃ L : List (List Sx.D), L = l.map fun x => [.v (.int .u8 x)] := ⟨_, rfl⟩
  have hll : L.length = l.length := by rw [hL, List.length_map]
  have h' : Rep w M (.list 1 L) v := by rw [hL]; exact h
  clear h
  cases h' with
  | nil k x c hm hx => exact absurd (List.eq_nil_of_length_eq_zero (by rw [← hll]; rfl)) h0
  | @list b off cap k L vs hc hm hMb hb hk hv hr =>
    rw [run_convert_bytes_string w 49 9 5 (some ⟨b, off, none⟩) L.length cap Tryd.underlying49 Tryd.underlying5 Tryd.underlying9]
    have hload : (loadCells ⟨b, off, none⟩ L.length).run Tryd.prog w = .ok (l.map (Value.int .u8)).toArray w := by
      have := run_loadCells (P := Tryd.prog) (w := w) ⟨b, off, none⟩ L.length (fun j => .int .u8 (l.getD j 0)) (fun j hj => by
        have h1 := hv j 0 hj (by decide)
        have hj' : j < l.length := by omega
        have e1 : L[j] = [.v (.int .u8 l[j])] := by subst hL; rw [List.getElem_map]
        have h2 := hr j 0 hj (by rw [e1]; exact Nat.zero_lt_one)
        have e2 : L[j][0]'(by rw [e1]; exact Nat.zero_lt_one) = .v (.int .u8 l[j]) := by simp only [e1]; rfl
        rw [e2] at h2
        have h3 : vs j 0 = .int .u8 l[j] := rep_v h2
        rw [h3] at h1
        rw [List.getD_eq_getElem?_getD, List.getElem?_eq_getElem hj', Option.getD_some]
        rw [Sx.add_plain]
        simpa using h1)
      rw [this]
      congr 1
      apply Array.ext'
      simp only []
      apply List.ext_getElem
      · simp [hll]
      · intro j h1 h2
        simp at h1 h2
        simp [List.getD_eq_getElem?_getD, List.getElem?_eq_getElem h2]
    rw [run_bytesToString w ⟨b, off, none⟩ L.length cap l hload, foldl_push]
    rfl
end Go.Proofs.YtgdpogdgpfjnoaaDoor

namespace Go.Proofs.YtgdpogdgpfjnoaaDoor
open Go Go.RowKit Go.Sort Sx
open Go.Lib hiding intOf
set_option maxRecDepth 100000 in
theorem CLform_fn (s : Str) (h : parseV s = (mdZ, 12)) (hl : s.length ≤ 10000) : FnOK Tryd.prog 19 [.one (str s)] (.c (.one (bol true))) := by
  have H1 := cParse_fn s (by omega)
  rw [h] at H1
  have H2 := roSameModel_fn mdZ mdZ
  simp only [decide_true] at H2
  replace H1 : FnOK Tryd.prog 12 [.one (str s)] (.tup [.agg [i64 0, i64 0, .list 3 []], .one (i64 12)]) := H1
  replace H2 : FnOK Tryd.prog 14 [.agg [i64 0, i64 0, .list 3 []], .agg [i64 0, i64 0, .list 3 []]] (.c (.one (bol true))) := H2
  refine fn_ok (by kernel_rfl) ty_ok Tryd.func19 rfl (fun _ _ => Tryd.call19 _ _) rfl ?_
  intro hw
  clear hw
  repeat' ((conv => whnf); first | (with_reducible first | refine br_t ?_ | refine br_f ?_ | refine za ?_ | refine zg ?_) | refine zsl ?_ | refine zsg ?_ | refine zss ?_ | refine zs1 ?_ | refine zse ?_ | refine zsn ?_ | refine zsc ?_ | (with_reducible first | refine zpa ?_ | refine zqa ?_) | refine zp ?_ | refine zq ?_ | (with_reducible first | refine bc (fun h => ?_) (fun h => ?_) | refine zt ?_ | refine zf ?_ | refine br_i (fun h => ?_) (fun h => ?_)) | refine zg ?_ | refine zi ?_ | refine zb ?_)
  all_goals conv => whnf
  all_goals first | rfl | exact r_bool (by simp)
set_option maxRecDepth 100000 in
theorem CLbare_fn (s : Str) (h : readV s = ((0, 0), 12)) (hl : s.length ≤ 1000) : FnOK Tryd.prog 16 [.one (str s)] (.c (.one (bol true))) := by
  have H1 := cReadNumber_fn s (by omega)
  rw [h] at H1
  simp only [retR3] at *
  refine fn_ok (by kernel_rfl) ty_ok Tryd.func16 rfl (fun _ _ => Tryd.call16 _ _) rfl ?_
  intro hw
  clear hw
  repeat' ((conv => whnf); first | (with_reducible first | refine br_t ?_ | refine br_f ?_ | refine za ?_ | refine zg ?_) | refine zsl ?_ | refine zsg ?_ | refine zss ?_ | refine zs1 ?_ | refine zse ?_ | refine zsn ?_ | refine zsc ?_ | (with_reducible first | refine zpa ?_ | refine zqa ?_) | refine zp ?_ | refine zq ?_ | (with_reducible first | refine bc (fun h => ?_) (fun h => ?_) | refine zt ?_ | refine zf ?_ | refine br_i (fun h => ?_) (fun h => ?_) | refine xi (pv_bool fun _ => eqv23 _ _ _ _ _ _ _) ?_) | refine zg ?_ | refine zi ?_ | refine zb ?_)
  all_goals conv => whnf
  all_goals first | rfl | exact r_bool (by simp)
set_option maxRecDepth 100000 in
theorem CLnumber_fn (n d : Int) (s : Str) (h : chk n d = 0) (e : wrtV n d = s) (hn : fitI n) (hd : fitI d) (hl : s.length ≤ 1000) : FnOK Tryd.prog 15 [.one (i64 n), .one (i64 d), .one (str s)] (.c (.one (bol true))) := by
  have H1 := cNumber_fn n d
  rw [numV_ok h, e] at H1
  have H2 := cReadNumber_fn s (by omega)
  rw [show readV s = ((n, d), 0) by rw [← e]; exact readV_is.of n d h hn hd] at H2
  simp only [retS, retR3] at *
  refine fn_ok (by kernel_rfl) ty_ok Tryd.func15 rfl (fun _ _ => Tryd.call15 _ _) rfl ?_
  intro hw
  clear hw
  repeat' ((conv => whnf); first | (with_reducible first | refine br_t ?_ | refine br_f ?_ | refine za ?_ | refine zg ?_) | refine zsl ?_ | refine zsg ?_ | refine zss ?_ | refine zs1 ?_ | refine zse ?_ | refine zsn ?_ | refine zsc ?_ | (with_reducible first | refine zpa ?_ | refine zqa ?_) | refine zp ?_ | refine zq ?_ | (with_reducible first | refine bc (fun h => ?_) (fun h => ?_) | refine zt ?_ | refine zf ?_ | refine br_i (fun h => ?_) (fun h => ?_) | refine xi (pv_bool fun _ => eqv23 _ _ _ _ _ _ _) ?_) | refine zg ?_ | refine zi ?_ | refine zb ?_)
  all_goals conv => whnf
  all_goals first | rfl | exact r_bool (by simp)
end Go.Proofs.YtgdpogdgpfjnoaaDoor

namespace Go.Proofs.YtgdpogdgpfjnoaaDoor
open Go Go.RowKit Go.Sort Sx
open Go.Lib hiding intOf
def fullC (n : Nat) : List Pt := (List.range n).map fun k : Nat => (⟨65472 + (k : Int), -1048576, -1048576⟩ : Pt)
theorem fullC_succ {n : Nat} (hn : n < 64) : (fullC n).map Pt.c ++ [[i64 (IntKind.i64.wrap (65472 + (n : Int))), i64 (-1048576), i64 (-1048576)]] = (fullC (n + 1)).map Pt.c := by
  rw [IntWalk.i64_in _ (by omega)]
  unfold fullC
  rw [List.range_succ, List.map_append, List.map_append]; rfl
theorem fullC_len (n : Nat) : ((fullC n).map Pt.c).length = n := by unfold fullC; simp
abbrev cfF : Md := ⟨-1073741823, 1024, fullC 64⟩
abbrev cfL : Str := [112, 111, 105, 110, 116, 32, 54, 53, 53, 51, 54, 32, 48, 32, 48, 10]
theorem cf_0 : mchk cfF = 0 := by kernel_rfl
theorem cf_1 : (textT cfF).length = 1941 := by kernel_rfl
theorem cf_2 : parseV (textT cfF ++ cfL) = (mdZ, 12) := by kernel_rfl
theorem cf_3 : parseV (List.replicate 2500 0) = (mdZ, 12) := by kernel_rfl
theorem cf_4 : parseV (List.replicate 2501 0) = (mdZ, 4) := by kernel_rfl
theorem cf_5 : parseV (textT cfF) = (cfF, 0) := by
  unfold parseV
  rw [if_neg (by rw [cf_1]; decide)]
  exact prsV_is.of _ cf_0
theorem cf_6 : textSV ⟨0, 0, []⟩ = ([], 8) := by kernel_rfl
theorem cf_7 : textSV ⟨0, 1, []⟩ = ([110, 111, 119, 32, 48, 10], 0) := by kernel_rfl
theorem zsz {n : Nat} {l : List (List Sx.D)} {K : Value → Prop} (k : K (bstr (List.replicate n 0))) (e : l = List.replicate n [.v (.int .u8 0)] := by rfl) (h0 : n ≠ 0 := by decide) : ∃ r, (r.oneCell' = true ∧ wfV r ∧ ∀ w M v, Rep w M (.list 1 l) v → (convert 49 9 v).run Tryd.prog w = .ok r w) ∧ K r := by
  subst e
  refine ⟨bstr (List.replicate n 0), ⟨rfl, trivial, fun w M v h => ?_⟩, k⟩
  have := conv_bytes (l := List.replicate n (0 : Int)) (by simp [h0]) (by rw [List.map_replicate]; exact h)
  rw [List.map_replicate] at this
  exact this
set_option maxRecDepth 100000 in
set_option maxHeartbeats 16000000 in
theorem LCfNames_fn : FnOK Tryd.prog 4 [] (.c (.one (bol true))) := by
  have HA := CLalive_fn
  have U0 := CLnumber_fn (0) (1) [48] (by kernel_rfl) (by kernel_rfl) (by decide) (by decide) (by decide)
  have U1 := CLnumber_fn (9223372036854775807) (1) [57, 50, 50, 51, 51, 55, 50, 48, 51, 54, 56, 53, 52, 55, 55, 53, 56, 48, 55] (by kernel_rfl) (by kernel_rfl) (by decide) (by decide) (by decide)
  have U2 := CLnumber_fn (-9223372036854775807) (9223372036854775806) [45, 57, 50, 50, 51, 51, 55, 50, 48, 51, 54, 56, 53, 52, 55, 55, 53, 56, 48, 55, 47, 57, 50, 50, 51, 51, 55, 50, 48, 51, 54, 56, 53, 52, 55, 55, 53, 56, 48, 54] (by kernel_rfl) (by kernel_rfl) (by decide) (by decide) (by decide)
  have U3 := CLnumber_fn (-1) (3) [45, 49, 47, 51] (by kernel_rfl) (by kernel_rfl) (by decide) (by decide) (by decide)
  have U4 := CLbare_fn [] (by kernel_rfl) (by decide)
  have U5 := CLbare_fn [45] (by kernel_rfl) (by decide)
  have U6 := CLbare_fn [47] (by kernel_rfl) (by decide)
  have U7 := CLbare_fn [49, 47] (by kernel_rfl) (by decide)
  have U8 := CLbare_fn [47, 50] (by kernel_rfl) (by decide)
  have U9 := CLbare_fn [48, 47, 49] (by kernel_rfl) (by decide)
  have U10 := CLbare_fn [48, 47, 50] (by kernel_rfl) (by decide)
  have U11 := CLbare_fn [49, 47, 48] (by kernel_rfl) (by decide)
  have U12 := CLbare_fn [49, 47, 45, 50] (by kernel_rfl) (by decide)
  have U13 := CLbare_fn [50, 47, 52] (by kernel_rfl) (by decide)
  have U14 := CLbare_fn [51, 47, 49] (by kernel_rfl) (by decide)
  have U15 := CLbare_fn [43, 49] (by kernel_rfl) (by decide)
  have U16 := CLbare_fn [32, 49] (by kernel_rfl) (by decide)
  have U17 := CLbare_fn [49, 32] (by kernel_rfl) (by decide)
  have U18 := CLbare_fn [49, 47, 50, 47, 51] (by kernel_rfl) (by decide)
  have U19 := CLbare_fn [48, 49] (by kernel_rfl) (by decide)
  have U20 := CLbare_fn [45, 48] (by kernel_rfl) (by decide)
  have U21 := CLbare_fn [57, 50, 50, 51, 51, 55, 50, 48, 51, 54, 56, 53, 52, 55, 55, 53, 56, 48, 56] (by kernel_rfl) (by decide)
  have U22 := CLbare_fn [45, 57, 50, 50, 51, 51, 55, 50, 48, 51, 54, 56, 53, 52, 55, 55, 53, 56, 48, 56] (by kernel_rfl) (by decide)
  have U23 := CLbare_fn [57, 57, 57, 57, 57, 57, 57, 57, 57, 57, 57, 57, 57, 57, 57, 57, 57, 57, 57, 57] (by kernel_rfl) (by decide)
  have U24 := CLbare_fn [49, 47, 48, 50] (by kernel_rfl) (by decide)
  have U25 := CLbare_fn [97] (by kernel_rfl) (by decide)
  have U26 := CLnone_fn [] (by kernel_rfl) (by decide)
  have U27 := CLnone_fn [112, 117, 116, 32, 49, 32, 50] (by kernel_rfl) (by decide)
  have U28 := CLnone_fn [112, 117, 116, 32, 49, 32, 50, 32, 51, 32, 52] (by kernel_rfl) (by decide)
  have U29 := CLnone_fn [112, 117, 116, 32, 54, 53, 53, 51, 54, 32, 48, 32, 48] (by kernel_rfl) (by decide)
  have U30 := CLnone_fn [112, 117, 116, 32, 49, 32, 49, 48, 52, 56, 53, 55, 55, 32, 48] (by kernel_rfl) (by decide)
  have U31 := CLnone_fn [112, 117, 116, 32, 45, 49, 32, 48, 32, 48] (by kernel_rfl) (by decide)
  have U32 := CLnone_fn [99, 104, 97, 110, 103, 101, 32, 49, 32, 48, 32, 49, 47, 50] (by kernel_rfl) (by decide)
  have U33 := CLnone_fn [116, 97, 107, 101] (by kernel_rfl) (by decide)
  have U34 := CLnone_fn [116, 97, 107, 101, 32, 54, 53, 53, 51, 54] (by kernel_rfl) (by decide)
  have U35 := CLnone_fn [116, 97, 107, 101, 32, 49, 32, 50] (by kernel_rfl) (by decide)
  have U36 := CLnone_fn [109, 111, 118, 101] (by kernel_rfl) (by decide)
  have U37 := CLnone_fn [109, 111, 118, 101, 32, 49, 48, 55, 51, 55, 52, 49, 56, 50, 53] (by kernel_rfl) (by decide)
  have U38 := CLnone_fn [109, 111, 118, 101, 32, 49, 47, 49, 48, 50, 53] (by kernel_rfl) (by decide)
  have U39 := CLnone_fn [109, 111, 118, 101, 32, 49, 32, 49] (by kernel_rfl) (by decide)
  have U40 := CLnone_fn [76, 101, 97, 100] (by kernel_rfl) (by decide)
  have U41 := CLnone_fn [108, 101, 97, 100, 32, 49] (by kernel_rfl) (by decide)
  have U42 := CLnone_fn [99, 108, 111, 115, 101, 10] (by kernel_rfl) (by decide)
  have U43 := CLnone_fn [110, 111, 119, 32, 49] (by kernel_rfl) (by decide)
  have U44 := CLnone_fn [112, 117, 116, 32, 32, 49, 32, 50, 32, 51] (by kernel_rfl) (by decide)
  have U45 := CLform_fn [] (by kernel_rfl) (by decide)
  have U46 := CLform_fn [110, 111, 119, 32, 49] (by kernel_rfl) (by decide)
  have U47 := CLform_fn [110, 111, 119, 32, 49, 47, 49, 48, 50, 53, 10] (by kernel_rfl) (by decide)
  have U48 := CLform_fn [110, 111, 119, 32, 49, 32, 49, 10] (by kernel_rfl) (by decide)
  have U49 := CLform_fn [112, 111, 105, 110, 116, 32, 49, 32, 48, 32, 48, 10] (by kernel_rfl) (by decide)
  have U50 := CLform_fn [110, 111, 119, 32, 49, 10, 110, 111, 119, 32, 49, 10] (by kernel_rfl) (by decide)
  have U51 := CLform_fn [110, 111, 119, 32, 49, 10, 112, 111, 105, 110, 116, 32, 50, 32, 48, 32, 48, 10, 112, 111, 105, 110, 116, 32, 49, 32, 48, 32, 48, 10] (by kernel_rfl) (by decide)
  have U52 := CLform_fn [110, 111, 119, 32, 49, 10, 112, 111, 105, 110, 116, 32, 49, 32, 48, 32, 48, 10, 112, 111, 105, 110, 116, 32, 49, 32, 48, 32, 48, 10] (by kernel_rfl) (by decide)
  have U53 := CLform_fn [110, 111, 119, 32, 49, 10, 112, 111, 105, 110, 116, 32, 54, 53, 53, 51, 54, 32, 48, 32, 48, 10] (by kernel_rfl) (by decide)
  have U54 := CLform_fn [110, 111, 119, 32, 49, 10, 112, 111, 105, 110, 116, 32, 49, 32, 48, 10] (by kernel_rfl) (by decide)
  have U55 := CLform_fn [110, 111, 119, 32, 49, 10, 112, 111, 105, 110, 116, 32, 49, 32, 48, 32, 49, 48, 52, 56, 53, 55, 55, 10] (by kernel_rfl) (by decide)
  have U56 := CLform_fn [110, 111, 119, 32, 49, 10, 10] (by kernel_rfl) (by decide)
  have U57 := CLform_fn [78, 111, 119, 32, 49, 10] (by kernel_rfl) (by decide)
  have U58 := CLform_fn [110, 111, 119, 32, 49, 10, 112, 111, 105, 110, 116, 115, 32, 49, 32, 48, 32, 48, 10] (by kernel_rfl) (by decide)
  have U59 := CLorder_fn ⟨1, ⟨65535, -1048576, 1048576⟩, 0, 0, 0⟩ [112, 117, 116, 32, 54, 53, 53, 51, 53, 32, 45, 49, 48, 52, 56, 53, 55, 54, 32, 49, 48, 52, 56, 53, 55, 54] (by kernel_rfl) (by kernel_rfl) (by decide)
  have U60 := CLorder_fn ⟨3, ⟨0, 0, 0⟩, 0, 0, 0⟩ [99, 104, 97, 110, 103, 101, 32, 48, 32, 48, 32, 48] (by kernel_rfl) (by kernel_rfl) (by decide)
  have U61 := CLorder_fn ⟨4, ⟨0, 0, 0⟩, 0, -1073741823, 1024⟩ [109, 111, 118, 101, 32, 45, 49, 48, 55, 51, 55, 52, 49, 56, 50, 51, 47, 49, 48, 50, 52] (by kernel_rfl) (by kernel_rfl) (by decide)
  have U62 := CLorder_fn ⟨5, ⟨0, 0, 0⟩, 0, 0, 0⟩ [108, 101, 97, 100] (by kernel_rfl) (by kernel_rfl) (by decide)
  have U63 := CLorder_fn ⟨6, ⟨0, 0, 0⟩, 0, 0, 0⟩ [99, 108, 111, 115, 101] (by kernel_rfl) (by kernel_rfl) (by decide)
  have U64 := CLorder_fn ⟨2, ⟨0, 0, 0⟩, 65535, 0, 0⟩ [116, 97, 107, 101, 32, 54, 53, 53, 51, 53] (by kernel_rfl) (by kernel_rfl) (by decide)
  have Z1 : FnOK Tryd.prog 19 [.one (str (List.replicate (2500 : Int).toNat 0))] (.c (.one (bol true))) := CLform_fn (List.replicate 2500 0) cf_3 (by rw [List.length_replicate]; decide)
  have Z2 : FnOK Tryd.prog 12 [.one (str (List.replicate (2501 : Int).toNat 0))] (.tup [.agg [i64 0, i64 0, .list 3 []], .one (i64 4)]) := by
    have h := cParse_fn (List.replicate 2501 0) (by rw [List.length_replicate]; decide)
    rw [cf_4] at h
    exact h
  have T1 := cText_fn cfF
  rw [show textSV cfF = (textT cfF, 0) from if_pos cf_0] at T1
  have P1 := cParse_fn (textT cfF) (by rw [cf_1]; decide)
  rw [cf_5] at P1
  have P2 := cParse_fn (textT cfF ++ cfL) (by rw [List.length_append, cf_1]; decide)
  rw [cf_2] at P2
  have S1 := roSameModel_fn cfF cfF
  have lT := cf_1
  have T2 := cText_fn ⟨0, 0, []⟩
  rw [cf_6] at T2
  have T3 := cText_fn ⟨0, 1, []⟩
  rw [cf_7] at T3
  have N1 := cNumber_fn 2 2
  rw [show numV 2 2 = ([], 8) by kernel_rfl] at N1
  have O1 := cOrder_fn ⟨7, ⟨0, 0, 0⟩, 0, 0, 0⟩
  rw [show ordSV ⟨7, ⟨0, 0, 0⟩, 0, 0, 0⟩ = ([], 8) by kernel_rfl] at O1
  simp only [decide_true, retS, retMd, Ak.dc] at U0 U1 U2 U3 U4 U5 U6 U7 U8 U9 U10 U11 U12 U13 U14 U15 U16 U17 U18 U19 U20 U21 U22 U23 U24 U25 U26 U27 U28 U29 U30 U31 U32 U33 U34 U35 U36 U37 U38 U39 U40 U41 U42 U43 U44 U45 U46 U47 U48 U49 U50 U51 U52 U53 U54 U55 U56 U57 U58 U59 U60 U61 U62 U63 U64 HA T1 P1 P2 S1 T2 T3 N1 O1
  replace T2 : FnOK Tryd.prog 10 [.agg [i64 0, i64 0, .list 3 []]] (.tup [.one (str []), .one (i64 8)]) := T2
  replace T3 : FnOK Tryd.prog 10 [.agg [i64 0, i64 1, .list 3 []]] (.tup [.one (str [110, 111, 119, 32, 48, 10]), .one (i64 0)]) := T3
  replace P2 : FnOK Tryd.prog 12 [.one (str (textT cfF ++ cfL))] (.tup [.agg [i64 0, i64 0, .list 3 []], .one (i64 12)]) := P2
  generalize textT cfF = T at *
  have hfl := fullC_len
  refine fn_ok (by kernel_rfl) (ty_okK [235] [] [] []) Tryd.func4 rfl (fun _ _ => Tryd.call4 _ _) rfl ?_
  intro hw
  clear hw
  repeat' ((conv => whnf); first | (with_reducible first | refine br_t ?_ | refine br_f ?_ | refine za ?_ | refine zg ?_ | refine zo ?_) | refine zsz ?_ | refine zsl ?_ | refine zsg ?_ | refine zss ?_ | refine zs1 ?_ | refine zse ?_ | refine zsn ?_ | refine zsc ?_ | (with_reducible first | refine zpa ?_ | refine zqa ?_) | refine zp ?_ | refine zq ?_ | (with_reducible first | refine bc (fun h => ?_) (fun h => ?_) | refine zt ?_ | refine zf ?_ | refine br_i (fun h => ?_) (fun h => ?_)) | refine zg ?_ | refine zi ?_ | refine zb ?_ | refine zl ?_)
  all_goals conv => whnf
  refine loop_nameH 6 2 100 rfl rfl rfl ?_
  refine loop_J (by kernel_rfl) (ty_okK [235] [] [] []) (σ := Nat) (fun i => [(7, sV (.int .i64 i)), (1, sV (.bool true)), (2, sV (.bool true)), (3, sV (.bool true)), (4, sV (.bool true)), (5, sV (.bool true))]) (fun i => [(6, .own [.d (i64 (-1073741823)), .d (i64 1024), .osl 100 0]), (100, .row 3 ((fullC i).map Pt.c) 0)]) (fun i => i ≤ 64) (fun i => 64 - i) 0 (Nat.zero_le _) ?_ ?_
  · (conv => whnf); exact zent
  intro i hi
  have hli := hfl i
  have hli2 : ((fullC i).map Pt.c ++ [[i64 (IntKind.i64.wrap (65472 + (i : Int))), i64 (-1048576), i64 (-1048576)]]).length ≤ 1000000 := by rw [List.length_append, hli]; simp only [List.length_cons, List.length_nil]; omega
  rcases Nat.lt_or_ge i 64 with hlt | hge
  · repeat' ((conv => whnf); first | (with_reducible first | refine br_t ?_ | refine br_f ?_ | refine za ?_ | refine zg ?_ | refine zo ?_) | exact hli2 | refine zsl ?_ | refine zsg ?_ | refine zss ?_ | refine zs1 ?_ | refine zse ?_ | refine zsn ?_ | refine zsc ?_ | (with_reducible first | refine zpa ?_ | refine zqa ?_) | refine zp ?_ | refine zq ?_ | (with_reducible first | refine bc (fun h => ?_) (fun h => ?_) | refine zt ?_ | refine zf ?_ | refine br_i (fun h => ?_) (fun h => ?_)) | refine zg ?_ | refine zi ?_ | refine zb ?_ | refine zl ?_)
    all_goals conv => whnf
    refine ⟨i + 1, hlt, ?_, by omega⟩
    (conv => whnf); refine ⟨by repeat' (first | with_reducible exact zE0 | with_reducible refine zE1 ?_ ?_ | rfl | assumption | ((exact congrArg (fun x => some (Blk.row 3 x 0)) (fullC_succ hlt))) | exact zi1 | exact zb1), by repeat' (first | with_reducible exact zH0 | with_reducible refine zH1 ?_ ?_ | rfl | assumption | ((exact congrArg (fun x => some (Blk.row 3 x 0)) (fullC_succ hlt)))), rfl⟩
  · obtain rfl : i = 64 := by omega
    repeat' ((conv => whnf); first | (with_reducible first | refine br_t ?_ | refine br_f ?_ | refine za ?_ | refine zg ?_ | refine zo ?_) | refine zsz ?_ | refine zl ?_ T1 | refine zl ?_ S1 | refine zsl ?_ | refine zsg ?_ | refine zss ?_ | refine zs1 ?_ | refine zse ?_ | refine zsn ?_ | refine zsc ?_ | (with_reducible first | refine zpa ?_ | refine zqa ?_) | refine zp ?_ | refine zq ?_ | (with_reducible first | refine bc (fun h => ?_) (fun h => ?_) | refine zt ?_ | refine zf ?_ | refine br_i (fun h => ?_) (fun h => ?_)) | refine zg ?_ | refine zi ?_ | refine zb ?_ | refine zl ?_)
    all_goals conv => whnf
    all_goals first | rfl | exact r_bool (by simp)
end Go.Proofs.YtgdpogdgpfjnoaaDoor

namespace Go.Proofs.YtgdpogdgpfjnoaaDoor
open Go Go.RowKit Go.ChangeShapes Go.WideShapes Go.ChangeAt Sx
theorem configNames_own : ownKnob Tryd.prog.godebug = none := by kernel_rfl
set_option maxRecDepth 100000 in
theorem configNames_wit (os : Os) {H : Type} (enc : TypeId × Value → H) :
    (OpenSpec.ofChange Rows.configNamesSpec).preRow enc Tryd.prog Tryd.f4 Rows.configNamesRow.domain false Rows.configNamesRow.laid ((laidWorld os).forCall (fun _ _ => 0) ⟨#[], #[], []⟩).memory #[] := by
  have hw : (DataW.whole enc Tryd.prog ((laidWorld os).forCall (fun _ _ => 0) ⟨#[], #[], []⟩).memory Tryd.f4.params.toList (OpenSpec.ofChange Rows.configNamesSpec).vars false (#[] : Array Value).toList 8).map (fun x => (x.1, x.2.1)) =
      some ([], []) := by kernel_rfl
  obtain ⟨⟨x1, x2, x3⟩, hx, hx1⟩ := Option.map_eq_some_iff.1 hw
  simp only [Prod.mk.injEq] at hx1
  obtain ⟨rfl, rfl⟩ := hx1
  exact OpenSpec.preRow_of_cond 8 hx (by kernel_rfl) (fun k hk => by cases hk) (by kernel_rfl) (laid_met os _)
set_option maxRecDepth 100000 in
theorem configNames_lifted (os : Os) (started : os.Started) (H : Type) (enc : TypeId × Value → H) (F : Stop.Interp) :
    ReturnsInHanded {} Tryd.checked os 4 .any ((OpenSpec.ofChange Rows.configNamesSpec).preRow enc Tryd.prog Tryd.f4 Rows.configNamesRow.domain false Rows.configNamesRow.laid) (((OpenSpec.ofChange Rows.configNamesSpec).at F).post enc Tryd.prog Tryd.f4 false true false false) := by
  refine returnsInHanded_of_row (C := Tryd.checked) (s := OpenSpec.ofChange Rows.configNamesSpec) configNames_own started (by kernel_rfl) Tryd.func4
    (witness_row_at (enc := enc) (C := Tryd.checked) false (laidWorld os) #[] rfl (by kernel_rfl) (by kernel_rfl) (by kernel_rfl) (configNames_wit os enc)) ?_
  intro W base args ds gs before hval0 hW _ _ _ hL hsh _
  have hgd := gd_of hL hsh
  have hval : ∀ (j : Nat) t v, Tryd.f4.params[j]? = some t → args[j]? = some v → Value.okWide Tryd.prog W .any base t v := hval0
  have hW' := hW
  obtain ⟨p, q, hA0, hV, rfl, hfz, hnd⟩ := hW
  have hA : DataW.TrodAll enc Tryd.prog W 0 (fun _ => true) true Tryd.f4.params.toList args.toList ds p := hA0
  rw [Tryd.params4] at hA hval
  obtain ⟨rfl, rfl, rfl⟩ := trodAll_none hA
  refine (law_of_fn (vs := []) (fun _ _ => Tryd.call4 _ _) (LCfNames_fn) hgd trivial).mono fun e W' ⟨he, hb⟩ => ?_
  subst he
  exact ⟨_, rfl, law_post (s := Rows.configNamesSpec) (by kernel_rfl) (by kernel_rfl) rfl Tryd.underlying4 rfl hW' ⟨rfl, rfl, rfl⟩ hb⟩
theorem configNames_and {a b : Bool} (h : a = true) (k : b = true) : (a && b) = true := by rw [h, k]; rfl
theorem configNames_c0 : (Rows.configNamesRow.inPlace == Tryd.prog.inPlace 4) = true := by kernel_rfl
theorem configNames_c1 : (Rows.configNamesRow.unfollowed == Tryd.prog.unfollowed 4) = true := by kernel_rfl
theorem configNames_c2 : (Rows.configNamesRow.recurses == Tryd.prog.recurses 4) = true := by kernel_rfl
theorem configNames_c3 : (Rows.configNamesRow.named == Tryd.prog.varsNamed 4) = true := by kernel_rfl
theorem configNames_c4 : (Rows.configNamesRow.loops == (Tryd.f4.params.toList ++ (OpenSpec.ofChange Rows.configNamesSpec).bare.plain.varTypes Tryd.prog).any (Tryd.prog.loopsFrom ·)) = true := by kernel_rfl
theorem configNames_c5 : laidOutB Tryd.prog = true := by kernel_rfl
theorem configNames_c6 : mapsRowed Tryd.prog = true := by kernel_rfl
theorem configNames_c7 : Tryd.prog.stopsHeard = true := by kernel_rfl
theorem configNames_c8 : Tryd.prog.mayEnter = true := by kernel_rfl
theorem configNames_facts : joinedFacts Tryd.prog 4 Tryd.f4 (OpenSpec.ofChange Rows.configNamesSpec).bare Rows.configNamesRow = true := by
  unfold joinedFacts
  repeat' (with_reducible refine configNames_and ?_ ?_)
  all_goals first | with_reducible exact configNames_c0 | with_reducible exact configNames_c1 | with_reducible exact configNames_c2 | with_reducible exact configNames_c3 | with_reducible exact configNames_c4 | with_reducible exact configNames_c5 | with_reducible exact configNames_c6 | with_reducible exact configNames_c7 | with_reducible exact configNames_c8 | kernel_rfl
theorem configNames_over : Rows.configNamesRow.holds Tryd.pinned (OpenSpec.ofChange Rows.configNamesSpec) :=
  OpenClaim.holds_of_cond 4 Tryd.f4 rfl rfl rfl rfl rfl rfl rfl ⟨rfl, rfl, rfl, rfl, rfl⟩ rfl rfl rfl rfl rfl (by kernel_rfl) Tryd.func4 configNames_facts
    (of_decide_eq_true (by kernel_rfl)) (by unfold Func.isWrapper; rw [if_neg (of_decide_eq_false (by kernel_rfl))]; exact ⟨rfl, rfl⟩)
    (fun os started H enc _ F0 => by rw [OpenClaim.pre_eq_preRow]; exact configNames_lifted os started H enc F0)
theorem configNames_params : (Tryd.f4.params.toList.all fun t => !Tryd.prog.wantsStandIn t) = true := by kernel_rfl
theorem configNames_proved : Rows.ConfigNamesCardSaid :=
  Claim7.holds_tied_plain_at .later [] Rows.configNamesCard.laidKinds true Rows.configNamesCard.stood.harness false
    configNames_over (fun _ h => by cases h) (by kernel_rfl) (fun _ h => by cases h) configNames_row_tie rfl ⟨rfl, rfl⟩ (by kernel_rfl) rfl
    (fun f fn hf hfn => by
      obtain rfl : f = 4 := Option.some.inj (hf.symm.trans (show Tryd.prog.funcNamed "peloton/pelotonlaw44.ConfigNames" = some 4 by kernel_rfl))
      obtain rfl : fn = Tryd.f4 := (Option.some.inj (Tryd.func4.symm.trans hfn)).symm
      exact ⟨by kernel_rfl, fun j t ht => by
        have hm : t ∈ Tryd.f4.params.toList := by rw [Array.mem_toList_iff]; exact Array.mem_of_getElem? ht
        exact (by simpa using List.all_eq_true.1 configNames_params t hm : Tryd.prog.wantsStandIn t = false)⟩)
    (by kernel_rfl)
#print axioms configNames_proved
end Go.Proofs.YtgdpogdgpfjnoaaDoor
