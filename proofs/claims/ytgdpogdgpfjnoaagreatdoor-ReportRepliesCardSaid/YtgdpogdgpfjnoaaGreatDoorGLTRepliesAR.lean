import Derived.Test.YtgdpogdgpfjnoaaGreatDoorGLTRepliesAQ
set_option linter.all false
namespace Go.Proofs.YtgdpogdgpfjnoaaGreatDoor
open Go Go.RowKit Go.Sort Sx
open Go.Lib hiding intOf
theorem rep_words {w : World} {M : Nat → Prop} {l : List Str} {v : Value} (h : Rep w M (strs l) v) : ∃ a c, v = .slice a l.length c ∧ ∀ i (hi : i < l.length), ∃ b off, a = some ⟨b, off, none⟩ ∧ b < w.heap.size ∧ ¬ M b ∧ w.cell? ⟨b, off + i, none⟩ = some (bstr l[i]) := by
  obtain ⟨L, hL⟩ : ∃ L : List (List Sx.D), L = l.map fun s => [str s] := ⟨_, rfl⟩
  have hll : L.length = l.length := by rw [hL, List.length_map]
  have h' : Rep w M (.list 1 L) v := by rw [hL]; exact h
  clear h
  cases h' with
  | nil k x c hm hx =>
    refine ⟨x, c, by rw [← hll]; rfl, fun i hi => ?_⟩
    rw [← hll] at hi; exact absurd hi (Nat.not_lt_zero _)
  | @list b off cap k L vs hc hm hMb hb hk hv hr =>
    refine ⟨_, cap, by rw [hll], fun i hi => ⟨b, off, rfl, hb, hMb, ?_⟩⟩
    have hi' : i < L.length := by omega
    have e1 : L[i] = [str l[i]] := by subst hL; rw [List.getElem_map]
    have h1 := hv i 0 hi' (by decide)
    have h2 := hr i 0 hi' (by rw [e1]; exact Nat.zero_lt_one)
    have e2 : L[i][0]'(by rw [e1]; exact Nat.zero_lt_one) = str l[i] := by simp only [e1]; rfl
    rw [e2] at h2
    have h3 : vs i 0 = bstr l[i] := by
      generalize vs i 0 = u at h2
      cases h2; rfl
    rw [h3, Nat.mul_one, Nat.add_zero] at h1
    exact h1
structure Outs (w : World) (ts : List Tg) (a : Option Addr) : Prop where
  at_ : ∀ i (hi : i < ts.length), ∃ b off, a = some ⟨b, off, none⟩ ∧ b < w.heap.size ∧ (∀ t ∈ ts, t.b ≠ b) ∧ w.cell? ⟨b, off + i, none⟩ = some ts[i].v
  gl : ∀ t ∈ ts, gl ≤ t.b
  lt : ∀ t ∈ ts, t.b < w.heap.size
  ok : ∀ t ∈ ts, t.ok w
set_option maxRecDepth 100000 in
set_option maxHeartbeats 4000000 in
theorem scan_any (ws : List Str) (ts : List Tg) (hl : ws.length ≤ 1000000) (hlt : ts.length ≤ 100) (hs : ∀ x ∈ ws, x.length ≤ 1000000) (w : World) (hg : Gd w) (slw : Value) (hw : Rep w (fun b => ∃ t ∈ ts, t.b = b) (strs ws) slw) (a : Option Addr) (c : Nat) (ho : Outs w ts a) :
    Calls Tryz.prog 49 #[slw, .slice a ts.length c] w fun e w' => if ws.length = ts.length then e = .returned (.bool (scanW ws ts w).2) ∧ Below w.heap.size (scanW ws ts w).1 w' else e = .returned (.bool false) ∧ Below w.heap.size w w' := by
  obtain ⟨aw, cw, rfl, hcw⟩ := rep_words hw
  by_cases hlen : ws.length = ts.length
  case neg =>
    simp only [if_neg hlen]
    have hn : ((ws.length : Int) != (ts.length : Int)) = true := bne_iff_ne.2 (by omega)
    go_enter Tryz.func49, Tryz.ntmps49
    go_wp2
    go_ret
    exact ⟨rfl, Below.refl _ _⟩
  simp only [if_pos hlen]
  have hn : ((ts.length : Int) != (ts.length : Int)) = false := bne_eq_false_iff_eq.2 rfl
  rw [hlen]
  go_enter Tryz.func49, Tryz.ntmps49
  go_wp2
  go_loopw [23] (fun i wr => ∃ (k : Nat) (Wk : World), k ≤ ts.length ∧ i = .int .i64 k ∧ scanW ws ts w = scanW (ws.drop k) (ts.drop k) Wk ∧ Below w.heap.size Wk wr ∧ Wk.heap.size = w.heap.size ∧ (∀ b, (∀ t ∈ ts, t.b ≠ b) → Wk.heap[b]? = w.heap[b]?) ∧ ∀ t ∈ ts, t.ok Wk) (fun i _ => ts.length - (intOf i).toNat)
  case atStart => exact ⟨0, w, Nat.zero_le _, rfl, rfl, Below.refl _ _, rfl, fun _ _ => rfl, ho.ok⟩
  case round =>
    obtain ⟨k, Wk, hk, rfl, hsc, hB, hWs, hkp, hok⟩ := hrel
    obtain ⟨wo, hwo⟩ : ∃ wo, wo = wr := ⟨_, rfl⟩
    subst hwo
    have hsz : w.heap.size ≤ wo.heap.size := by have := hB.size; omega
    have hoff : ∀ b, b < w.heap.size → (∀ t ∈ ts, t.b ≠ b) → wo.heap[b]? = w.heap[b]? := fun b hb hn => (hB.block b hb).trans (hkp b hn)
    have hgW : Gd wo := gd_keep hsz (fun b hb => hoff b (Nat.lt_of_lt_of_le hb (gd_size hg)) fun t ht e => by have := ho.gl t ht; omega) hg
    rcases Nat.lt_or_ge k ts.length with hlt' | hge
    · have hkw : k < ws.length := by omega
      obtain ⟨bw, ow, ha1, hb1, hM1, hc1⟩ := hcw k hkw
      obtain ⟨bo, oo, ha2, hb2, hM2, hc2⟩ := ho.at_ k hlt'
      subst ha1
      subst ha2
      have hcw1 : wo.cell? ⟨bw, ow + k, none⟩ = some (bstr ws[k]) := (World.cell?_of_block (w := w) (a := ⟨bw, ow + k, none⟩) (hoff bw hb1 fun t ht e => hM1 ⟨t, ht, e⟩)).trans hc1
      have hco1 : wo.cell? ⟨bo, oo + k, none⟩ = some ts[k].v := (World.cell?_of_block (w := w) (a := ⟨bo, oo + k, none⟩) (hoff bo hb2 hM2)).trans hc2
      have hmem := List.getElem_mem hlt'
      have hok1 := hok _ hmem
      have hgl1 := ho.gl _ hmem
      have hlt1 := ho.lt _ hmem
      have hx := hs _ (List.getElem_mem hkw)
      rw [List.drop_eq_getElem_cons hkw, List.drop_eq_getElem_cons hlt', scanW] at hsc
      have hset : ∀ (a : Addr) (v : Value), (∃ t ∈ ts, t.b = a.block) → (∀ b, (∀ t ∈ ts, t.b ≠ b) → (Wk.setCell a v).heap[b]? = w.heap[b]?) ∧ ∀ t ∈ ts, t.ok (Wk.setCell a v) := fun a v ⟨t, ht, e⟩ => ⟨fun b hb => (Below.heap_setCell Wk a v b (fun e' => hb t ht (e.trans e'.symm))).trans (hkp b hb), fun t ht => Tg.ok_set (hok t ht) a v⟩
      have hset2 : ∀ (a : Addr) (v : Value) (a' : Addr) (v' : Value), (∃ t ∈ ts, t.b = a.block) → (∃ t ∈ ts, t.b = a'.block) → (∀ b, (∀ t ∈ ts, t.b ≠ b) → ((Wk.setCell a v).setCell a' v').heap[b]? = w.heap[b]?) ∧ ∀ t ∈ ts, t.ok ((Wk.setCell a v).setCell a' v') := fun a v a' v' h1 ⟨t, ht, e⟩ => ⟨fun b hb => (Below.heap_setCell _ a' v' b (fun e' => hb t ht (e.trans e'.symm))).trans ((hset a v h1).1 b hb), fun t ht => Tg.ok_set ((hset a v h1).2 t ht) a' v'⟩
      have hmb : ∃ t ∈ ts, t.b = ts[k].b := ⟨_, hmem, rfl⟩
      clear hcw hc1 hc2 hs hM1 hM2
      generalize ts[k] = t at *
      generalize ws[k] = x at *
      cases t with
      | i b o =>
        have hco : wo.cell? ⟨bo, oo + k, none⟩ = some (.iface 141 (.pointer (some ⟨b, o, none⟩))) := hco1
        have hb : b < w.heap.size := hlt1
        have hcel : Cel Wk b o := hok1
        have hmb' : ∃ t ∈ ts, t.b = b := hmb
        clear hco1 hlt1 hok1 hmb
        have ty := fun w => ta_yes Tryz.underlying141 (fun _ h => by cases h) (.pointer (some ⟨b, o, none⟩)) 20 w
        cases hv : atoV x with
        | none =>
          have hI := atoi_no hx hv hgW
          have hsc' : scanW ws ts w = (Wk, false) := by rw [hsc]; simp only [Tg.put, hv, Option.map_none]
          go_wp2_with (go_at_call 91; (with_reducible refine Calls.mono hI ?_); rintro e W1 ⟨n, N, rfl, B1⟩)
          go_ret
          rw [hsc']
          exact ⟨rfl, hB.trans (B1.mono hsz)⟩
        | some v =>
          have hI := atoi_yes hx hv wo
          have hsc' : scanW ws ts w = scanW (ws.drop (k + 1)) (ts.drop (k + 1)) (Wk.setCell ⟨b, o, none⟩ (.int .i64 v)) := by rw [hsc]; simp only [Tg.put, hv, Option.map_some]
          obtain ⟨⟨u, hu⟩, hf⟩ := cel_of hcel (hB.block b hb)
          have kp : ∀ {W' : World}, Below wo.heap.size wo W' → W'.cell? ⟨b, o, none⟩ = some u ∧ W'.frozen? ⟨b, o, none⟩ = false := fun hb' => ⟨(World.cell?_of_block (w := wo) (a := ⟨b, o, none⟩) (hb'.block b (by omega))).trans hu, (World.frozen?_of_block (w := wo) (a := ⟨b, o, none⟩) (hb'.block b (by omega))).trans hf⟩
          clear hsc
          go_wp2_with (first
            | (go_at_call 91; (with_reducible refine Calls.mono hI ?_); rintro e W1 ⟨rfl, B1⟩; have g0 := (kp B1).1; have g1 := (kp B1).2)
            | (rw [Oper.semAt_eq _ _ _ (fun c h => by cases h)]; go_simp; try go_bits))
          go_roundw
          case rel =>
            refine ⟨k + 1, Wk.setCell ⟨b, o, none⟩ (.int .i64 v), hlt', by go_num, hsc', below_set (hB.trans (B1.mono hsz)) _ _, (size_set _ _ _).trans hWs, (hset _ _ hmb').1, (hset _ _ hmb').2⟩
          case measure => simp [intOf]; omega
      | l b o =>
        have hco : wo.cell? ⟨bo, oo + k, none⟩ = some (.iface 150 (.pointer (some ⟨b, o, none⟩))) := hco1
        have hb : b < w.heap.size := hlt1
        have hcel : Cel Wk b o := hok1
        have hmb' : ∃ t ∈ ts, t.b = b := hmb
        clear hco1 hlt1 hok1 hmb
        have t0 := fun w => ta_no Tryz.underlying141 (fun _ h => by cases h) Tryz.zeroValue141 (show (150 : TypeId) ≠ 141 by decide) (.pointer (some ⟨b, o, none⟩)) 20 w
        have ty := fun w => ta_yes Tryz.underlying150 (fun _ h => by cases h) (.pointer (some ⟨b, o, none⟩)) 20 w
        cases hv : atoV x with
        | none =>
          have hI := parse_no hx hv hgW
          have hsc' : scanW ws ts w = (Wk, false) := by rw [hsc]; simp only [Tg.put, hv, Option.map_none]
          go_wp2_with (go_at_call 92; (with_reducible refine Calls.mono hI ?_); rintro e W1 ⟨n, N, rfl, B1⟩)
          go_ret
          rw [hsc']
          exact ⟨rfl, hB.trans (B1.mono hsz)⟩
        | some v =>
          have hI := parse_yes hx hv wo
          have hsc' : scanW ws ts w = scanW (ws.drop (k + 1)) (ts.drop (k + 1)) (Wk.setCell ⟨b, o, none⟩ (.int .i64 v)) := by rw [hsc]; simp only [Tg.put, hv, Option.map_some]
          obtain ⟨⟨u, hu⟩, hf⟩ := cel_of hcel (hB.block b hb)
          have kp : ∀ {W' : World}, Below wo.heap.size wo W' → W'.cell? ⟨b, o, none⟩ = some u ∧ W'.frozen? ⟨b, o, none⟩ = false := fun hb' => ⟨(World.cell?_of_block (w := wo) (a := ⟨b, o, none⟩) (hb'.block b (by omega))).trans hu, (World.frozen?_of_block (w := wo) (a := ⟨b, o, none⟩) (hb'.block b (by omega))).trans hf⟩
          clear hsc
          go_wp2_with (first
            | (go_at_call 92; (with_reducible refine Calls.mono hI ?_); rintro e W1 ⟨rfl, B1⟩; have g0 := (kp B1).1; have g1 := (kp B1).2)
            | (rw [Oper.semAt_eq _ _ _ (fun c h => by cases h)]; go_simp; try go_bits))
          go_roundw
          case rel =>
            refine ⟨k + 1, Wk.setCell ⟨b, o, none⟩ (.int .i64 v), hlt', by go_num, hsc', below_set (hB.trans (B1.mono hsz)) _ _, (size_set _ _ _).trans hWs, (hset _ _ hmb').1, (hset _ _ hmb').2⟩
          case measure => simp [intOf]; omega
      | r b o =>
        have hco : wo.cell? ⟨bo, oo + k, none⟩ = some (.iface 97 (.pointer (some ⟨b, o, none⟩))) := hco1
        have hb : b < w.heap.size := hlt1
        have hcel : Cel Wk b o ∧ Cel Wk b (o + 1) := hok1
        have hmb' : ∃ t ∈ ts, t.b = b := hmb
        clear hco1 hlt1 hok1 hmb
        have t0 := fun w => ta_no Tryz.underlying141 (fun _ h => by cases h) Tryz.zeroValue141 (show (97 : TypeId) ≠ 141 by decide) (.pointer (some ⟨b, o, none⟩)) 20 w
        have t1 := fun w => ta_no Tryz.underlying150 (fun _ h => by cases h) Tryz.zeroValue150 (show (97 : TypeId) ≠ 150 by decide) (.pointer (some ⟨b, o, none⟩)) 20 w
        have ty := fun w => ta_yes Tryz.underlying97 (fun _ h => by cases h) (.pointer (some ⟨b, o, none⟩)) 20 w
        have hI := (fn_call (vs := [bstr x]) (fun _ _ => Tryz.call93 _ _) rfl (cReadNumber_fn x hx) hgW ⟨.v _ rfl trivial, trivial⟩)
        have hfr : frV x = if (readV x).2 = 0 then some (readV x).1 else none := rfl
        generalize readV x = q at *
        obtain ⟨⟨qn, qd⟩, qe⟩ := q
        simp only at hI hfr
        by_cases hq : qe = 0
        · subst hq
          rw [if_pos rfl] at hfr
          have hsc' : scanW ws ts w = scanW (ws.drop (k + 1)) (ts.drop (k + 1)) ((Wk.setCell ⟨b, o, none⟩ (.int .i64 qn)).setCell ⟨b, o + 1, none⟩ (.int .i64 qd)) := by rw [hsc]; simp only [Tg.put, hfr, Option.map_some]
          obtain ⟨⟨u, hu⟩, hf⟩ := cel_of hcel.1 (hB.block b hb)
          obtain ⟨⟨u', hu'⟩, hf'⟩ := cel_of hcel.2 (hB.block b hb)
          have kp : ∀ {W' : World}, Below wo.heap.size wo W' → W'.cell? ⟨b, o, none⟩ = some u ∧ W'.frozen? ⟨b, o, none⟩ = false ∧ W'.cell? ⟨b, o + 1, none⟩ = some u' ∧ W'.frozen? ⟨b, o + 1, none⟩ = false := fun hb' => ⟨(World.cell?_of_block (w := wo) (a := ⟨b, o, none⟩) (hb'.block b (by omega))).trans hu, (World.frozen?_of_block (w := wo) (a := ⟨b, o, none⟩) (hb'.block b (by omega))).trans hf, (World.cell?_of_block (w := wo) (a := ⟨b, o + 1, none⟩) (hb'.block b (by omega))).trans hu', (World.frozen?_of_block (w := wo) (a := ⟨b, o + 1, none⟩) (hb'.block b (by omega))).trans hf'⟩
          clear hsc hfr
          go_wp2_with (first
            | (go_at_call 93; (with_reducible refine Calls.mono hI ?_); rintro e W1 ⟨rfl, B1⟩; have B2 : Below wo.heap.size wo (W1.alloc (.cells #[.int .i64 qn, .int .i64 qd] 25)) := B1.alloc B1.size _; obtain ⟨g0, g1, g2, g3⟩ := kp B2)
            | (rw [Oper.semAt_eq _ _ _ (fun c h => by cases h)]; go_simp; try go_bits))
          go_roundw
          case rel =>
            refine ⟨k + 1, (Wk.setCell ⟨b, o, none⟩ (.int .i64 qn)).setCell ⟨b, o + 1, none⟩ (.int .i64 qd), hlt', by go_num, hsc', below_set (below_set (hB.trans (B2.mono hsz)) _ _) _ _, (size_set _ _ _).trans ((size_set _ _ _).trans hWs), (hset2 _ _ _ _ hmb' hmb').1, (hset2 _ _ _ _ hmb' hmb').2⟩
          case measure => simp [intOf]; omega
        · rw [if_neg hq] at hfr
          have hsc' : scanW ws ts w = (Wk, false) := by rw [hsc]; simp only [Tg.put, hfr, Option.map_none]
          have hqb : (qe != 0) = true := bne_iff_ne.2 hq
          clear hsc hfr
          go_wp2_with (go_at_call 93; (with_reducible refine Calls.mono hI ?_); rintro e W1 ⟨rfl, B1⟩)
          go_ret
          rw [hsc']
          exact ⟨rfl, hB.trans ((B1.alloc B1.size _).mono hsz)⟩
    · obtain rfl : k = ts.length := by omega
      have hd1 : ws.drop ts.length = [] := by rw [← hlen, List.drop_length]
      have hsc' : scanW ws ts w = (Wk, true) := by rw [hsc, hd1]; simp [scanW]
      go_wp2
      go_ret
      rw [hsc']
      exact ⟨rfl, hB⟩
end Go.Proofs.YtgdpogdgpfjnoaaGreatDoor

namespace Go.Proofs.YtgdpogdgpfjnoaaGreatDoor
open Go Go.RowKit Go.Sort Sx
open Go.Lib hiding intOf
def chk3 (b o len k : Nat) : Value := .slice (some ⟨b, o + 3 * k, none⟩) (min 3 (len - 3 * k)) (min 3 (len - 3 * k))
set_option maxRecDepth 100000 in
set_option maxHeartbeats 4000000 in
theorem chunk_ends (a : Option Addr) (b o len c B1 B2 n : Nat) (w : World) (ha : len ≠ 0 → a = some ⟨b, o, none⟩) (h1 : Boxed w B1 63 (.slice a len c)) (h2 : Boxed w B2 3 (.int .i64 3)) (hlc : len ≤ c) (hlen : len ≤ 1000000) (hn : 1 ≤ n) :
    SeqEnds n Tryz.prog 139 #[.pointer (some ⟨B1, 0, none⟩), .pointer (some ⟨B2, 0, none⟩)] (fun k : Nat => #[chk3 b o len k]) (fun x => x = B1 ∨ x = B2) (List.range ((len + 2) / 3)) w := fun lp J Jx W hsz hbs hJ hY h0 => by
  have hb1 : Boxed W B1 63 (.slice a len c) := (hbs B1 (.inl rfl)).trans h1
  have hb2 : Boxed W B2 3 (.int .i64 3) := (hbs B2 (.inr rfl)).trans h2
  refine callsIn_of_wp Tryz.func139 rfl trivial ?_ rfl
  simp only [Tryz.ntmps139, List.size_toArray, List.length_cons, List.length_nil, Nat.reduceAdd, Nat.reduceSub, Array.replicate_succ, Array.replicate_zero, List.push_toArray, List.append_toArray, List.nil_append, List.cons_append]
  gi_wp2
  gi_loopw [4] (fun x W' => ∃ k : Nat, x = .int .i64 ((3 * k : Nat) : Int) ∧ 3 * k ≤ len + 2 ∧ J (List.range k) W' ∧ Boxed W' B1 63 (.slice a len c) ∧ Boxed W' B2 3 (.int .i64 3)) (fun x _ => len + 3 - (intOf x).toNat)
  case atStart => exact ⟨0, rfl, by omega, h0, hb1, hb2⟩
  case round =>
    obtain ⟨k, rfl, hk, hJk, hx1, hx2⟩ := hrel
    have c1 := hx1.cell
    have f1 := hx1.frozen
    have c2 := hx2.cell
    have f2 := hx2.frozen
    rcases Nat.lt_or_ge (3 * k) len with hlt | hge
    · have ht : decide (((3 * k : Nat) : Int) < (len : Int)) = true := decide_eq_true (by omega)
      have ha2 := ha (by omega)
      subst ha2
      have hrg : List.range k ++ k :: (List.range ((len + 2) / 3)).drop (k + 1) = List.range ((len + 2) / 3) := by
        have hkN : k < (len + 2) / 3 := by omega
        conv => rhs; rw [← List.take_append_drop k (List.range ((len + 2) / 3)), List.drop_eq_getElem_cons (by simpa using hkN)]
        rw [List.take_range, Nat.min_eq_left (by omega), List.getElem_range]
      gi_wp2
      gi_region
      obtain ⟨m, hm⟩ : ∃ m, m = min 3 (len - 3 * k) := ⟨_, rfl⟩
      have hm1 : 1 ≤ m := by omega
      have hm2 : 3 * k + m ≤ len := by omega
      have hm3 : 3 * k + m ≤ c := by omega
      have hmw : IntKind.i64.wrap (3 * (k : Int) + (m : Int)) = ((3 * k + m : Nat) : Int) := by rw [IntWalk.i64_in _ (by omega)]; omega
      have hm3w : IntKind.i64.wrap (3 * (k : Int) + 3) = ((3 * (k + 1) : Nat) : Int) := by rw [IntWalk.i64_in _ (by omega)]; omega
      obtain ⟨W2, hW2⟩ : ∃ W2, W2 = wr.drew := ⟨_, rfl⟩
      have hJ2 : J (List.range k) W2 := by rw [hW2]; exact hJ _ _ _ none hJk (grownBy_drew _) (fun r e => by cases e)
      have hy1 : Boxed W2 B1 63 (.slice (some ⟨b, o, none⟩) len c) := by rw [hW2]; exact hx1
      have hy2 : Boxed W2 B2 3 (.int .i64 3) := by rw [hW2]; exact hx2
      have d1 := hy1.cell
      have d2 := hy2.cell
      obtain ⟨fn, tmps, assign, body, hy, hR⟩ := hY (List.range k) k _ W2 hrg hJ2
      have hck : chk3 b o len k = .slice (some ⟨b, o + 3 * k, none⟩) m m := by unfold chk3; rw [← hm]
      rw [hck] at hy
      try rw [show min (3 : Int) ((len - 3 * k : Nat) : Int) = (m : Int) by omega]
      try rw [← hm]
      rw [← hW2]
      clear hW2 c1 f1 c2 f2 hm hck
      gi_wp2
      refine hR.mono ?_
      rintro e W3 (⟨rfl, hJ5, hs5, hk5⟩ | ⟨rfl, hx5⟩)
      · have hz1 : Boxed W3 B1 63 (.slice (some ⟨b, o, none⟩) len c) := (hk5 B1 (.inl rfl)).trans hy1
        have hz2 : Boxed W3 B2 3 (.int .i64 3) := (hk5 B2 (.inr rfl)).trans hy2
        have e2 := hz2.cell
        clear hR
        gi_wp2
        go_roundw
        case rel => exact ⟨k + 1, by go_num, by omega, by rw [List.range_succ]; exact hJ5, hz1, hz2⟩
        case measure => simp [intOf]; omega
      · gi_wp2
        refine bodyPost_ret (results_none rfl _ _ _) rfl ?_
        exact ⟨⟨_, rfl⟩, .inr hx5⟩
    · have ht : decide (((3 * k : Nat) : Int) < (len : Int)) = false := decide_eq_false (by omega)
      gi_wp2
      go_end0
      refine ⟨⟨_, rfl⟩, .inl ?_⟩
      have : k = (len + 2) / 3 := by omega
      rw [← this]; exact hJk
end Go.Proofs.YtgdpogdgpfjnoaaGreatDoor

namespace Go.Proofs.YtgdpogdgpfjnoaaGreatDoor
open Go Go.RowKit Go.Sort Sx
open Go.Lib hiding intOf
theorem scanW_keep : ∀ (ws : List Str) (ts : List Tg) (W : World), (scanW ws ts W).1.heap.size = W.heap.size ∧ (∀ k, (∀ t ∈ ts, t.b ≠ k) → (scanW ws ts W).1.heap[k]? = W.heap[k]?) ∧ ∀ n, (∀ t ∈ ts, n ≤ t.b) → Below n W (scanW ws ts W).1
  | [], _, W => ⟨rfl, fun _ _ => rfl, fun _ _ => Below.refl _ _⟩
  | _ :: _, [], W => ⟨rfl, fun _ _ => rfl, fun _ _ => Below.refl _ _⟩
  | s :: ws, t :: ts, W => by
    rw [scanW]
    have hput : ∀ W', t.put s W = some W' → W'.heap.size = W.heap.size ∧ (∀ k, t.b ≠ k → W'.heap[k]? = W.heap[k]?) ∧ ∀ n, n ≤ t.b → Below n W W' := by
      intro W' h
      cases t with
      | i b o =>
        obtain ⟨v, _, rfl⟩ := Option.map_eq_some_iff.1 h
        exact ⟨size_set _ _ _, fun k hk => setCell_other fun e => hk e.symm, fun n hn => (Below.refl _ _).setCell hn _⟩
      | l b o =>
        obtain ⟨v, _, rfl⟩ := Option.map_eq_some_iff.1 h
        exact ⟨size_set _ _ _, fun k hk => setCell_other fun e => hk e.symm, fun n hn => (Below.refl _ _).setCell hn _⟩
      | r b o =>
        obtain ⟨v, _, rfl⟩ := Option.map_eq_some_iff.1 h
        exact ⟨(size_set _ _ _).trans (size_set _ _ _), fun k hk => (setCell_other fun e => hk e.symm).trans (setCell_other fun e => hk e.symm), fun n hn => ((Below.refl _ _).setCell hn _).setCell hn _⟩
    cases h : t.put s W with
    | none => exact ⟨rfl, fun _ _ => rfl, fun _ _ => Below.refl _ _⟩
    | some W' =>
      obtain ⟨a1, a2, a3⟩ := hput W' h
      obtain ⟨b1, b2, b3⟩ := scanW_keep ws ts W'
      exact ⟨b1.trans a1, fun k hk => (b2 k fun t ht => hk t (List.mem_cons_of_mem _ ht)).trans (a2 k (hk t (List.mem_cons_self ..))), fun n hn => (a3 n (hn t (List.mem_cons_self ..))).trans (b3 n fun t ht => hn t (List.mem_cons_of_mem _ ht))⟩
theorem scan_one {t : List Str} {ts : List Tg} {R n : Nat} {T : TypeId} {cs X : Array Value} {b : Bool} (hn : ts ≠ []) (hts : ∀ x ∈ ts, x.b = R) (hl : t.length ≤ 1000000) (hlt : ts.length ≤ 100) (hs : ∀ x ∈ t, x.length ≤ 1000000) {W : World} (hg : Gd W) (hR : W.heap[R]? = some (.cells cs T (0, 0))) (hok : ∀ x ∈ ts, x.ok W) (hgl : gl ≤ R) (hnR : n ≤ R)
    {v : Value} (hv : Rep W (fun b => b = R) (strs t) v)
    (hX : t.length = ts.length → ∀ W', W'.heap[R]? = some (.cells cs T (0, 0)) → (scanW t ts W').2 = b ∧ (scanW t ts W').1.heap[R]? = some (.cells X T (0, 0))) (hX' : t.length ≠ ts.length → b = false ∧ X = cs) :
    Calls Tryz.prog 49 #[v, .slice (some ⟨W.heap.size, 0, none⟩) ts.length ts.length] (W.alloc (.cells (ts.map Tg.v).toArray 20)) fun e w' => e = .returned (.bool b) ∧ w'.heap[R]? = some (.cells X T (0, 0)) ∧ (∀ k, k < W.heap.size → k ≠ R → w'.heap[k]? = W.heap[k]?) ∧ Below n W w' := by
  have hRl := (Array.getElem?_eq_some_iff.1 hR).1
  obtain ⟨W2, hW2⟩ : ∃ W2, W2 = W.alloc (.cells (ts.map Tg.v).toArray 20) := ⟨_, rfl⟩
  have hnew : W2.heap[W.heap.size]? = some (.cells (ts.map Tg.v).toArray 20 (0, 0)) := by rw [hW2]; exact World.alloc_heap_new W _
  have hB : Below W.heap.size W W2 := by rw [hW2]; exact (Below.refl _ _).alloc (Nat.le_refl _) _
  have hs2 : W2.heap.size = W.heap.size + 1 := by rw [hW2]; simp
  rw [← hW2]
  clear hW2
  have hout : Outs W2 ts (some ⟨W.heap.size, 0, none⟩) := by
    refine ⟨fun i hi => ⟨_, _, rfl, by omega, fun t ht => by rw [hts t ht]; omega, ?_⟩, fun t ht => by rw [hts t ht]; exact hgl, fun t ht => by rw [hts t ht]; omega, fun t ht => ?_⟩
    · simp only [World.cell?, hnew]
      simp [hi]
    · have := hok t ht
      have hb := hB.block R hRl
      rw [← hts t ht] at hb
      cases t with
      | i b o => exact cel_of this hb
      | l b o => exact cel_of this hb
      | r b o => exact ⟨cel_of this.1 hb, cel_of this.2 hb⟩
  have hv2 : Rep W2 (fun b => ∃ t ∈ ts, t.b = b) (strs t) v := hv.mono (Holds.of_below hB) fun b _ ⟨t, ht, e⟩ => by rw [← e]; exact hts t ht
  refine (scan_any t ts hl hlt hs W2 (gd_below hB hg) v hv2 _ ts.length hout).mono ?_
  intro e w' h
  obtain ⟨k1, k2, k3⟩ := scanW_keep t ts W2
  have hR2 : W2.heap[R]? = some (.cells cs T (0, 0)) := (hB.block R hRl).trans hR
  by_cases hlen : t.length = ts.length
  · rw [if_pos hlen] at h
    obtain ⟨rfl, h2⟩ := h
    obtain ⟨x1, x2⟩ := hX hlen W2 hR2
    refine ⟨by rw [x1], (h2.block R (by omega)).trans x2, fun k hk hkR => (h2.block k (by omega)).trans ((k2 k fun t ht => by rw [hts t ht]; exact fun e => hkR e.symm).trans (hB.block k hk)), ?_⟩
    exact ((hB.mono (by omega)).trans (k3 n fun t ht => by rw [hts t ht]; exact hnR)).trans (h2.mono (by omega))
  · rw [if_neg hlen] at h
    obtain ⟨rfl, h2⟩ := h
    obtain ⟨rfl, rfl⟩ := hX' hlen
    exact ⟨rfl, (h2.block R (by omega)).trans hR2, fun k hk hkR => (h2.block k (by omega)).trans (hB.block k hk), (hB.mono (by omega)).trans (h2.mono (by omega))⟩
theorem chunk_in {n : Nat} (a : Option Addr) (l c : Nat) (w : World) : CallsIn Fence.wide n Tryz.prog 89 #[.slice a l c, .int .i64 3] w fun e w' => e = .returned (.func (.func 139) #[] #[.pointer (some ⟨w.heap.size, 0, none⟩), .pointer (some ⟨w.heap.size + 1, 0, none⟩)]) ∧ w' = (w.alloc (.cells #[.slice a l c] 63)).alloc (.cells #[.int .i64 3] 3) := by
  refine callsIn_of_wp Tryz.func89 rfl trivial ?_ rfl
  simp only [Tryz.ntmps89, List.size_toArray, List.length_cons, List.length_nil, Nat.reduceAdd, Nat.reduceSub, Array.replicate_succ, Array.replicate_zero, List.push_toArray, List.append_toArray, List.nil_append, List.cons_append]
  gi_wp2
  first | go_ret | refine bodyPost_ret (results_tmp rfl _ _ _) rfl ?_ | refine bodyPost_end (results_tmp rfl _ _ _) rfl ?_
  exact ⟨rfl, rfl⟩
end Go.Proofs.YtgdpogdgpfjnoaaGreatDoor

namespace Go.Proofs.YtgdpogdgpfjnoaaGreatDoor
open Go Go.RowKit Go.Sort Sx
open Go.Lib hiding intOf
def rpC (r : Rp) (ms : Value) : Array Value := #[.int .i64 r.e, .int .i64 r.i, .int .i64 r.j, .int .i64 r.n, .int .i64 r.d, ms]
theorem cells6 {W : World} {b : Nat} {u v x y z m : Value} {T : TypeId} (h : W.heap[b]? = some (.cells #[u, v, x, y, z, m] T (0, 0))) :
    (W.cell? ⟨b, 0, none⟩ = some u ∧ W.cell? ⟨b, 1, none⟩ = some v ∧ W.cell? ⟨b, 2, none⟩ = some x ∧ W.cell? ⟨b, 3, none⟩ = some y ∧ W.cell? ⟨b, 4, none⟩ = some z ∧ W.cell? ⟨b, 5, none⟩ = some m) ∧ ∀ o, W.frozen? ⟨b, o, none⟩ = false := by
  refine ⟨⟨?_, ?_, ?_, ?_, ?_, ?_⟩, fun o => ?_⟩ <;> simp [World.cell?, World.frozen?, h]
theorem set6 {W : World} {b : Nat} {cs : Array Value} {T : TypeId} (i : Nat) (v : Value) (h : W.heap[b]? = some (.cells cs T (0, 0))) : (W.setCell ⟨b, i, none⟩ v).heap[b]? = some (.cells (cs.setIfInBounds i v) T (0, 0)) := by
  obtain ⟨hlt, hk⟩ := Array.getElem?_eq_some_iff.1 h
  show (W.heap.modify b _)[b]? = _
  rw [Array.getElem?_eq_getElem (by rw [Array.size_modify]; exact hlt), Array.getElem_modify_self, hk]
  rfl
theorem results_read {R K : Nat} {W : World} {u v x y z m e : Value} (tmps : Array Value) (h2 : tmps[2]? = some (.pointer (some ⟨R, 0, none⟩))) (h3 : tmps[3]? = some (.pointer (some ⟨K, 0, none⟩))) (h6 : W.heap[R]? = some (.cells #[u, v, x, y, z, m] 28 (0, 0))) (h7 : Boxed W K 4 e) : (results Tryz.f47 tmps).run Tryz.prog W = .ok (.tuple #[.agg #[u, v, x, y, z, m], e]) W := by
  obtain ⟨⟨a0, a1, a2, a3, a4, a5⟩, _⟩ := cells6 h6
  have e0 := h7.cell
  have hr : Tryz.f47.results = #[.cell 2 28, .cell 3 4] := rfl
  simp only [results, hr]
  simp [h2, h3]
  go_simp
def ldX : List Str → Rp × Bool
  | [a, b] => match atoV a with
    | none => (rp0, false)
    | some i => match frV b with
      | none => (⟨0, i, 0, 0, 0, []⟩, false)
      | some q => (⟨0, i, 0, q.1, q.2, []⟩, true)
  | _ => (rp0, false)
theorem ldX_is (t : List Str) : rdWP wLeader t = if (ldX t).2 = true then some (ldX t).1 else none := by
  unfold rdWP ldX
  rw [if_neg (by decide), if_neg (by decide), if_pos rfl]
  match t with
  | [a, b] =>
    rcases h1 : atoV a with _ | i
    · simp [h1]
    · rcases h2 : frV b with _ | q <;> simp [h1, h2]
  | [] => rfl
  | [_] => rfl
  | _ :: _ :: _ :: _ => rfl
theorem ldX_sc {R : Nat} : ∀ {t : List Str}, t.length = 2 → ∀ W : World, W.heap[R]? = some (.cells (rpC rp0 (.slice none 0 0)) 28 (0, 0)) → (scanW t [.i R 1, .r R 3] W).2 = (ldX t).2 ∧ (scanW t [.i R 1, .r R 3] W).1.heap[R]? = some (.cells (rpC (ldX t).1 (.slice none 0 0)) 28 (0, 0))
  | [a, b], _, W, h => by
    unfold scanW ldX
    simp only [Tg.put]
    cases atoV a with
    | none => exact ⟨rfl, h⟩
    | some i =>
      simp only [Option.map_some]
      unfold scanW
      simp only [Tg.put]
      have h1 := set6 1 (.int .i64 i) h
      cases frV b with
      | none => exact ⟨rfl, h1⟩
      | some q =>
        simp only [Option.map_some]
        unfold scanW
        exact ⟨rfl, set6 4 (.int .i64 q.2) (set6 3 (.int .i64 q.1) h1)⟩
  | [], h, _, _ => by cases h
  | [_], h, _, _ => by cases h
  | _ :: _ :: _ :: _, h, _, _ => by simp at h
theorem ldX_no {t : List Str} (h : t.length ≠ 2) : ldX t = (rp0, false) := by
  match t, h with
  | [a, b], h => exact absurd rfl h
  | [], _ => rfl
  | [_], _ => rfl
  | _ :: _ :: _ :: _, _ => rfl
def rdW (w : World) : World := (w.alloc (.cells (rpC rp0 (.slice none 0 0)) 28)).alloc (.cells #[.bool false] 4)
theorem rdW_ok (w : World) : (rdW w).heap.size = w.heap.size + 2 ∧ (rdW w).heap[w.heap.size]? = some (.cells (rpC rp0 (.slice none 0 0)) 28 (0, 0)) ∧ (rdW w).heap[w.heap.size + 1]? = some (.cells #[.bool false] 4 (0, 0)) ∧ Below w.heap.size w (rdW w) := by
  unfold rdW
  refine ⟨by simp, ?_, ?_, ((Below.refl _ _).alloc (Nat.le_refl _) _).alloc (by simp) _⟩
  · rw [Below.heap_alloc _ _ _ (by simp)]; exact World.alloc_heap_new w _
  · have := World.alloc_heap_new (w.alloc (.cells (rpC rp0 (.slice none 0 0)) 28)) (.cells #[.bool false] 4)
    rwa [World.size_alloc] at this
theorem cel6 {W : World} {b o : Nat} {cs : Array Value} {T : TypeId} (h : W.heap[b]? = some (.cells cs T (0, 0))) (ho : o < cs.size) : Cel W b o := by
  refine ⟨⟨cs[o], ?_⟩, ?_⟩ <;> simp [World.cell?, World.frozen?, h, ho]
def prX : List Str → Rp × Bool
  | [a, b, c] => match atoV a with
    | none => (rp0, false)
    | some i => match atoV b with
      | none => (⟨0, i, 0, 0, 0, []⟩, false)
      | some j => match frV c with
        | none => (⟨0, i, j, 0, 0, []⟩, false)
        | some q => (⟨0, i, j, q.1, q.2, []⟩, true)
  | _ => (rp0, false)
theorem prX_is (t : List Str) : rdWP wPair t = if (prX t).2 = true then some (prX t).1 else none := by
  unfold rdWP prX
  rw [if_neg (by decide), if_neg (by decide), if_neg (by decide), if_pos rfl]
  match t with
  | [a, b, c] =>
    rcases h1 : atoV a with _ | i
    · simp [h1]
    · rcases h2 : atoV b with _ | j
      · simp [h1, h2]
      · rcases h3 : frV c with _ | q <;> simp [h1, h2, h3]
  | [] => rfl
  | [_] => rfl
  | [_, _] => rfl
  | _ :: _ :: _ :: _ :: _ => rfl
theorem prX_sc {R : Nat} : ∀ {t : List Str}, t.length = 3 → ∀ W : World, W.heap[R]? = some (.cells (rpC rp0 (.slice none 0 0)) 28 (0, 0)) → (scanW t [.i R 1, .i R 2, .r R 3] W).2 = (prX t).2 ∧ (scanW t [.i R 1, .i R 2, .r R 3] W).1.heap[R]? = some (.cells (rpC (prX t).1 (.slice none 0 0)) 28 (0, 0))
  | [a, b, c], _, W, h => by
    unfold scanW prX
    simp only [Tg.put]
    cases atoV a with
    | none => exact ⟨rfl, h⟩
    | some i =>
      simp only [Option.map_some]
      unfold scanW
      simp only [Tg.put]
      have h1 := set6 1 (.int .i64 i) h
      cases atoV b with
      | none => exact ⟨rfl, h1⟩
      | some j =>
        simp only [Option.map_some]
        unfold scanW
        simp only [Tg.put]
        have h2 := set6 2 (.int .i64 j) h1
        cases frV c with
        | none => exact ⟨rfl, h2⟩
        | some q =>
          simp only [Option.map_some]
          unfold scanW
          exact ⟨rfl, set6 4 (.int .i64 q.2) (set6 3 (.int .i64 q.1) h2)⟩
  | [], h, _, _ => by cases h
  | [_], h, _, _ => by cases h
  | [_, _], h, _, _ => by cases h
  | _ :: _ :: _ :: _ :: _, h, _, _ => by simp at h
theorem prX_no {t : List Str} (h : t.length ≠ 3) : prX t = (rp0, false) := by
  match t, h with
  | [a, b, c], h => exact absurd rfl h
  | [], _ => rfl
  | [_], _ => rfl
  | [_, _], _ => rfl
  | _ :: _ :: _ :: _ :: _, _ => rfl
def erX : List Str → Int × Bool
  | [a] => match atoV a with
    | none => (0, false)
    | some i => (i, true)
  | _ => (0, false)
theorem erX_is (t : List Str) : rdWP wErr t = if (erX t).2 = true then some (rpE (erX t).1) else none := by
  unfold rdWP erX
  rw [if_neg (by decide), if_pos rfl]
  match t with
  | [a] => rcases h1 : atoV a with _ | i <;> simp [h1]
  | [] => rfl
  | _ :: _ :: _ => rfl
theorem erX_sc {R : Nat} : ∀ {t : List Str}, t.length = 1 → ∀ W : World, W.heap[R]? = some (.cells #[.int .i64 0] 3 (0, 0)) → (scanW t [.i R 0] W).2 = (erX t).2 ∧ (scanW t [.i R 0] W).1.heap[R]? = some (.cells #[.int .i64 (erX t).1] 3 (0, 0))
  | [a], _, W, h => by
    unfold scanW erX
    simp only [Tg.put]
    cases atoV a with
    | none => exact ⟨rfl, h⟩
    | some i =>
      simp only [Option.map_some]
      unfold scanW
      exact ⟨rfl, set6 0 (.int .i64 i) h⟩
  | [], h, _, _ => by cases h
  | _ :: _ :: _, h, _, _ => by simp at h
theorem erX_no {t : List Str} (h : t.length ≠ 1) : erX t = (0, false) := by
  match t, h with
  | [a], h => exact absurd rfl h
  | [], _ => rfl
  | _ :: _ :: _, _ => rfl
theorem atoV_in {s : Str} {v : Int} (h : atoV s = some v) : in64 v := atoiAll_bounds (atoV_ok h)
theorem frV_in {s : Str} {q : Int × Int} (h : frV s = some q) : in64 q.1 ∧ in64 q.2 := ⟨fit_in (frV_fit h).1, fit_in (frV_fit h).2⟩
def rpIn (r : Rp) : Prop := in64 r.e ∧ in64 r.i ∧ in64 r.j ∧ in64 r.n ∧ in64 r.d
theorem in0 : in64 0 := ⟨by decide, by decide⟩
theorem ldX_in (t : List Str) : rpIn (ldX t).1 := by
  unfold ldX
  split
  · rcases h1 : atoV _ with _ | i
    · exact ⟨in0, in0, in0, in0, in0⟩
    · rcases h2 : frV _ with _ | q
      · exact ⟨in0, atoV_in h1, in0, in0, in0⟩
      · exact ⟨in0, atoV_in h1, in0, (frV_in h2).1, (frV_in h2).2⟩
  · exact ⟨in0, in0, in0, in0, in0⟩
theorem prX_in (t : List Str) : rpIn (prX t).1 := by
  unfold prX
  split
  · rcases h1 : atoV _ with _ | i
    · exact ⟨in0, in0, in0, in0, in0⟩
    · rcases h2 : atoV _ with _ | j
      · exact ⟨in0, atoV_in h1, in0, in0, in0⟩
      · rcases h3 : frV _ with _ | q
        · exact ⟨in0, atoV_in h1, atoV_in h2, in0, in0⟩
        · exact ⟨in0, atoV_in h1, atoV_in h2, (frV_in h3).1, (frV_in h3).2⟩
  · exact ⟨in0, in0, in0, in0, in0⟩
theorem erX_in (t : List Str) : in64 (erX t).1 := by
  unfold erX
  split
  · rcases h1 : atoV _ with _ | i
    · exact in0
    · exact atoV_in h1
  · exact in0
end Go.Proofs.YtgdpogdgpfjnoaaGreatDoor
