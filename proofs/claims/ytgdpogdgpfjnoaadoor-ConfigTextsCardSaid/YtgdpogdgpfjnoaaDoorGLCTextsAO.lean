import Derived.Test.YtgdpogdgpfjnoaaDoorGLCTextsAN
import Derived.Test.YtgdpogdgpfjnoaaDoorGLCTextsAM
import Derived.Test.YtgdpogdgpfjnoaaDoorGLCTextsAJ
import Derived.Test.YtgdpogdgpfjnoaaDoorGLCTextsAL
set_option linter.all false
namespace Go.Proofs.YtgdpogdgpfjnoaaDoor
open Go.RowKit Go.Sort Sx Go.Lib
def wNow : Str := [110, 111, 119]
def wPoint : Str := [112, 111, 105, 110, 116]
def nowB (m : Md) : Str := wNow ++ 32 :: wrtV m.n m.d
def linB (p : Pt) : Str := wPoint ++ 32 :: pointS p
def endL (l : List Str) : Str := l.flatMap fun x => x ++ [10]
def textT (m : Md) : Str := endL (nowB m :: m.l.map linB)
def textSV (m : Md) : Str × Int := if mchk m = 0 then (textT m, 0) else ([], 8)
abbrev mdZ : Md := ⟨0, 0, []⟩
def lns : Str → List Str
  | [] => []
  | b :: l => if b = 10 then [10] :: lns l else match lns l with | [] => [[b]] | h :: t => (b :: h) :: t
def trimN (s : Str) : Str := if s.getLast? = some 10 then s.dropLast else s
def prsL : Md → List Str → Option Md
  | m, [] => some m
  | m, x :: r =>
    let w := spl 32 (trimN x)
    if w.headD [] = wNow ∧ w.length = 2 then (if (readV (w.getD 1 [])).2 = 0 then prsL ⟨(readV (w.getD 1 [])).1.1, (readV (w.getD 1 [])).1.2, m.l⟩ r else none)
    else match rdPt wholeV w.tail with | some p => prsL ⟨m.n, m.d, m.l ++ [p]⟩ r | none => none
def backM (s : Str) (m : Option Md) : Md × Int := match m with | some m => if mchk m = 0 ∧ textT m = s then (m, 0) else (mdZ, 12) | none => (mdZ, 12)
def prsV (s : Str) : Md × Int := backM s (prsL mdZ (lns s))
def parseV (s : Str) : Md × Int := if 2500 < s.length then (mdZ, 4) else prsV s
def prsP : List Pt → List Str → Option (List Pt)
  | l, [] => some l
  | l, x :: r => match rdPtR (spl 32 x).tail with | some p => prsP (l ++ [p]) r | none => none
def prsK : List Str → Option Md
  | [] => some mdZ
  | x :: r => if (readR ((spl 32 x).getLastD [])).2 = 0 then (prsP [] r).map fun l => ⟨(readR ((spl 32 x).getLastD [])).1.1, (readR ((spl 32 x).getLastD [])).1.2, l⟩ else none
def prsR (s : Str) : Md × Int := backM s (prsK (spl 10 s).dropLast)
def parseR (s : Str) : Md × Int := if 2500 < s.length then (mdZ, 4) else prsR s
theorem backM_ok {s : Str} {m : Option Md} (h : (backM s m).2 = 0) : mchk (backM s m).1 = 0 ∧ textT (backM s m).1 = s := by
  unfold backM at h ⊢
  cases m with
  | none => cases h
  | some m =>
    dsimp only at h ⊢
    split at h
    · rename_i c; rw [if_pos c]; exact c
    · cases h
theorem backM_no {s : Str} {m : Option Md} (h : (backM s m).2 ≠ 0) : backM s m = (mdZ, 12) := by
  unfold backM at h ⊢
  cases m with
  | none => rfl
  | some m =>
    dsimp only at h ⊢
    split at h
    · exact absurd rfl h
    · rename_i c; rw [if_neg c]
theorem backM_of {s : Str} {m : Md} (h : mchk m = 0) (e : textT m = s) : backM s (some m) = (m, 0) := by
  unfold backM; dsimp only; rw [if_pos ⟨h, e⟩]
theorem lns_at : ∀ {a : Str} (r : Str), (10 : UInt8) ∉ a → lns (a ++ 10 :: r) = (a ++ [10]) :: lns r
  | [], r, _ => by rw [List.nil_append, lns, if_pos rfl]; rfl
  | b :: a, r, h => by
    rw [List.cons_append, lns, if_neg (fun e => h (by rw [e]; exact List.mem_cons_self ..)), lns_at r (fun k => h (List.mem_cons_of_mem _ k))]; rfl
theorem lns_end : ∀ {l : List Str}, (∀ x ∈ l, (10 : UInt8) ∉ x) → lns (endL l) = l.map fun x => x ++ [10]
  | [], _ => rfl
  | x :: l, h => by
    have e : endL (x :: l) = x ++ 10 :: endL l := by unfold endL; rw [List.flatMap_cons, List.append_assoc]; rfl
    rw [e, lns_at _ (h x (List.mem_cons_self ..)), lns_end (fun y hy => h y (List.mem_cons_of_mem _ hy))]; rfl
theorem spl_end : ∀ {l : List Str}, (∀ x ∈ l, (10 : UInt8) ∉ x) → spl 10 (endL l) = l ++ [[]]
  | [], _ => rfl
  | x :: l, h => by
    have e : endL (x :: l) = x ++ 10 :: endL l := by unfold endL; rw [List.flatMap_cons, List.append_assoc]; rfl
    rw [e, spl_at _ (h x (List.mem_cons_self ..)), spl_end (fun y hy => h y (List.mem_cons_of_mem _ hy))]; rfl
theorem trimN_end (x : Str) : trimN (x ++ [10]) = x := by
  unfold trimN
  rw [if_pos (by simp)]; simp
theorem itoa_no10 (n : Int) : (10 : UInt8) ∉ itoa n := itoa_no (by decide) (by decide)
theorem nowB_no (m : Md) : (10 : UInt8) ∉ nowB m := by
  unfold nowB wrtV
  intro h
  rcases List.mem_append.1 h with h | h
  · exact absurd h (by decide)
  · rcases List.mem_cons.1 h with h | h
    · exact absurd h (by decide)
    · split at h
      · exact itoa_no10 _ h
      · rcases List.mem_append.1 h with h | h
        · exact itoa_no10 _ h
        · rcases List.mem_cons.1 h with h | h
          · exact absurd h (by decide)
          · exact itoa_no10 _ h
theorem linB_no (p : Pt) : (10 : UInt8) ∉ linB p := by
  unfold linB pointS
  intro h
  rcases List.mem_append.1 h with h | h
  · exact absurd h (by decide)
  · rcases List.mem_cons.1 h with h | h
    · exact absurd h (by decide)
    · rcases List.mem_append.1 h with h | h
      · exact itoa_no10 _ h
      · rcases List.mem_cons.1 h with h | h
        · exact absurd h (by decide)
        · rcases List.mem_append.1 h with h | h
          · exact itoa_no10 _ h
          · rcases List.mem_cons.1 h with h | h
            · exact absurd h (by decide)
            · exact itoa_no10 _ h
theorem lines_no (m : Md) : ∀ x ∈ nowB m :: m.l.map linB, (10 : UInt8) ∉ x := fun x hx => by
  rcases List.mem_cons.1 hx with rfl | hx
  · exact nowB_no m
  · obtain ⟨p, _, rfl⟩ := List.mem_map.1 hx
    exact linB_no p
theorem spl_now (m : Md) : spl 32 (nowB m) = [wNow, wrtV m.n m.d] := by
  unfold nowB
  rw [spl_at _ (by decide), spl_no (wrt_no32 _ _)]
theorem spl_lin (p : Pt) : spl 32 (linB p) = [wPoint, itoa p.id, itoa p.a, itoa p.b] := by
  unfold linB
  rw [spl_at _ (by decide), spl_point]
theorem prsL_pts : ∀ (l : List Pt) (m : Md), (∀ p ∈ l, p.chk = 0) → prsL m (l.map fun p => linB p ++ [10]) = some ⟨m.n, m.d, m.l ++ l⟩
  | [], m, _ => by rw [List.map_nil, prsL, List.append_nil]
  | p :: l, m, h => by
    rw [List.map_cons, prsL]
    simp only [trimN_end, spl_lin]
    rw [if_neg (by intro h; exact absurd h.1 (by show ¬ wPoint = wNow; decide))]
    show (match rdPt wholeV [itoa p.id, itoa p.a, itoa p.b] with | some p => _ | none => none) = _
    rw [rdPt_of (fun n h => whole_itoa h) (h p (List.mem_cons_self ..))]
    dsimp only
    rw [prsL_pts l _ fun q hq => h q (List.mem_cons_of_mem _ hq)]
    dsimp only
    rw [List.append_assoc]; rfl
theorem prsP_pts : ∀ (l k : List Pt), (∀ p ∈ l, p.chk = 0) → prsP k (l.map linB) = some (k ++ l)
  | [], k, _ => by rw [List.map_nil, prsP, List.append_nil]
  | p :: l, k, h => by
    have hc := h p (List.mem_cons_self ..)
    obtain ⟨q1, q2, _⟩ := cpt_ok (i := p.id) (a := p.a) (b := p.b) hc
    have hr : rdPtR [itoa p.id, itoa p.a, itoa p.b] = some p := by
      unfold rdPtR
      rw [rdPt_of (fun n h => wholeR_itoa h) hc]
      dsimp only
      rw [if_pos ⟨q1, q2⟩]
    rw [List.map_cons, prsP, spl_lin]
    show (match rdPtR [itoa p.id, itoa p.a, itoa p.b] with | some p => _ | none => none) = _
    rw [hr]
    dsimp only
    rw [prsP_pts l _ fun q hq => h q (List.mem_cons_of_mem _ hq), List.append_assoc]; rfl
theorem prsV_is : Reads textT (fun m => mchk m = 0) mdZ prsV := by
  refine ⟨fun s h => backM_ok h, fun s h => backM_no h, fun m hm => ?_⟩
  obtain ⟨g1, g2⟩ := mchk_ok hm
  obtain ⟨k1, k2, k3⟩ := fchk_ok g2
  obtain ⟨c1, c2, c3⟩ := askd_fit g1
  have e : prsL mdZ (lns (textT m)) = some m := by
    unfold textT
    rw [lns_end (lines_no m), List.map_cons, prsL]
    simp only [trimN_end, spl_now]
    rw [if_pos ⟨rfl, rfl⟩]
    show (if (readV (wrtV m.n m.d)).2 = 0 then prsL ⟨(readV (wrtV m.n m.d)).1.1, (readV (wrtV m.n m.d)).1.2, []⟩ _ else none) = _
    rw [readV_is.of _ _ c1 c2 c3, if_pos rfl, List.map_map]
    exact prsL_pts m.l ⟨m.n, m.d, []⟩ k2
  show backM (textT m) (prsL mdZ (lns (textT m))) = _
  rw [e]
  exact backM_of hm rfl
theorem prsR_is : Reads textT (fun m => mchk m = 0) mdZ prsR := by
  refine ⟨fun s h => backM_ok h, fun s h => backM_no h, fun m hm => ?_⟩
  obtain ⟨g1, g2⟩ := mchk_ok hm
  obtain ⟨k1, k2, k3⟩ := fchk_ok g2
  obtain ⟨c1, c2, c3⟩ := askd_fit g1
  have e : prsK (spl 10 (textT m)).dropLast = some m := by
    unfold textT
    rw [spl_end (lines_no m), List.dropLast_concat, prsK, spl_now]
    show (if (readR (wrtV m.n m.d)).2 = 0 then (prsP [] (m.l.map linB)).map _ else none) = _
    rw [readR_is.of _ _ c1 c2 c3, if_pos rfl, prsP_pts m.l [] k2]
    show Option.map (fun l => (⟨(readR (wrtV m.n m.d)).1.1, (readR (wrtV m.n m.d)).1.2, l⟩ : Md)) (some ([] ++ m.l)) = some m
    rw [readR_is.of _ _ c1 c2 c3]; rfl
  show backM (textT m) (prsK (spl 10 (textT m)).dropLast) = _
  rw [e]
  exact backM_of hm rfl
theorem parse_eq (s : Str) : parseV s = parseR s := by
  unfold parseV parseR
  rw [prsV_is.eq prsR_is s]
theorem dec_len_le {u k : Nat} (hk : 1 ≤ k) (h : u < 10 ^ k) : (decDigits u).length ≤ k := by
  rw [decDigits_length]
  have : ∀ (j u : Nat), u < 10 ^ (j + 1) → nDigits u ≤ j + 1 := by
    intro j
    induction j with
    | zero => intro u hu; rw [nDigits_small (by simpa using hu)]; exact Nat.le_refl _
    | succ j ih2 =>
      intro u hu
      by_cases h10 : u < 10
      · rw [nDigits_small h10]; omega
      · rw [nDigits_big h10]
        have := ih2 (u / 10) (by rw [Nat.pow_succ] at hu; omega)
        omega
  obtain ⟨j, rfl⟩ : ∃ j, k = j + 1 := ⟨k - 1, by omega⟩
  exact this j u h
theorem itoa_len_le {n : Int} {k : Nat} (hk : 1 ≤ k) (h : n.natAbs < 10 ^ k) : (itoa n).length ≤ k + 1 := by
  unfold itoa
  split
  · rw [List.length_cons]; have := dec_len_le hk h; omega
  · have := dec_len_le (u := n.toNat) hk (Nat.lt_of_le_of_lt (by omega) h)
    omega
theorem lin_len {p : Pt} (h : p.chk = 0) : (linB p).length ≤ 30 := by
  obtain ⟨h1, h2, h3, h4, h5, h6⟩ := cpt_ok (i := p.id) (a := p.a) (b := p.b) h
  have l1 := itoa_len_le (n := p.id) (k := 5) (by decide) (by rw [show (10 : Nat) ^ 5 = 100000 by decide]; omega)
  have e7 : (10 : Nat) ^ 7 = 10000000 := by decide
  have l2 := itoa_len_le (n := p.a) (k := 7) (by decide) (by omega)
  have l3 := itoa_len_le (n := p.b) (k := 7) (by decide) (by omega)
  unfold linB pointS wPoint
  simp only [List.length_append, List.length_cons, List.length_nil]
  omega
theorem wrt_len {n d : Int} (h : askd n d = 0) : (wrtV n d).length ≤ 17 := by
  obtain ⟨h1, h2, h3, h4, h5⟩ := askd_ok h
  have e10 : (10 : Nat) ^ 10 = 10000000000 := by decide
  have e4 : (10 : Nat) ^ 4 = 10000 := by decide
  have l1 := itoa_len_le (n := n) (k := 10) (by decide) (by omega)
  have l2 := itoa_len_le (n := d) (k := 4) (by decide) (by omega)
  unfold wrtV
  split
  · omega
  · simp only [List.length_append, List.length_cons]; omega
theorem endL_len : ∀ (l : List Str), (∀ x ∈ l, x.length ≤ 30) → (endL l).length ≤ l.length * 31
  | [], _ => Nat.le_refl _
  | x :: l, h => by
    have e : endL (x :: l) = x ++ 10 :: endL l := by unfold endL; rw [List.flatMap_cons, List.append_assoc]; rfl
    have h1 := h x (List.mem_cons_self ..)
    have h2 := endL_len l fun y hy => h y (List.mem_cons_of_mem _ hy)
    rw [e]
    simp only [List.length_append, List.length_cons]
    omega
theorem text_len {m : Md} (hm : mchk m = 0) : (textT m).length ≤ 2100 := by
  obtain ⟨g1, g2⟩ := mchk_ok hm
  obtain ⟨k1, k2, k3⟩ := fchk_ok g2
  have hw := wrt_len g1
  have h := endL_len (nowB m :: m.l.map linB) fun x hx => by
    rcases List.mem_cons.1 hx with rfl | hx
    · unfold nowB wNow; simp only [List.length_append, List.length_cons, List.length_nil]; omega
    · obtain ⟨p, hp, rfl⟩ := List.mem_map.1 hx
      exact lin_len (k2 p hp)
  rw [List.length_cons, List.length_map] at h
  unfold textT
  omega
end Go.Proofs.YtgdpogdgpfjnoaaDoor

namespace Go.Proofs.YtgdpogdgpfjnoaaDoor
open Go Go.RowKit Go.Sort Sx
open Go.Lib hiding intOf
theorem rep_iv {w : World} {M : Nat → Prop} {n : Int} {v : Value} (h : Rep w M (i64 n) v) : v = .int .i64 n := by cases h; rfl
theorem rep_pts {w : World} {M : Nat → Prop} {l : List Pt} {v : Value} (h : Rep w M (pts l) v) : ∃ a c, v = .slice a l.length c ∧ ∀ i (hi : i < l.length), ∃ b off, a = some ⟨b, off, none⟩ ∧ b < w.heap.size ∧ w.cell? ⟨b, off + i * 3, none⟩ = some (.int .i64 l[i].id) ∧ w.cell? ⟨b, off + i * 3 + 1, none⟩ = some (.int .i64 l[i].a) ∧ w.cell? ⟨b, off + i * 3 + 2, none⟩ = some (.int .i64 l[i].b) := by
  obtain ⟨L, hL⟩ : ∃ L : List (List Sx.D), L = l.map Pt.c := ⟨_, rfl⟩
  have hll : L.length = l.length := by rw [hL, List.length_map]
  have h' : Rep w M (.list 3 L) v := by rw [hL]; exact h
  clear h
  cases h' with
  | nil k x c hm hx =>
    refine ⟨x, c, by rw [← hll]; rfl, fun i hi => ?_⟩
    rw [← hll] at hi; exact absurd hi (Nat.not_lt_zero _)
  | @list b off cap k L vs hc hm hMb hb hk hv hr =>
    refine ⟨_, cap, by rw [hll], fun i hi => ⟨b, off, rfl, hb, ?_⟩⟩
    have hi' : i < L.length := by omega
    have e1 : L[i] = l[i].c := by subst hL; rw [List.getElem_map]
    have key : ∀ (j : Nat) (x : Int), j < 3 → (l[i].c)[j]? = some (i64 x) → w.cell? ⟨b, off + i * 3 + j, none⟩ = some (.int .i64 x) := fun j x hj hx => by
      have h1 := hv i j hi' hj
      have hj' : j < L[i].length := by rw [e1]; exact hj
      have h2 := hr i j hi' hj'
      have e2 : L[i][j] = i64 x := by
        have : L[i][j]? = some (i64 x) := by rw [e1]; exact hx
        rw [List.getElem?_eq_getElem hj'] at this; injection this
      rw [e2] at h2
      have h3 : vs i j = .int .i64 x := rep_iv h2
      rw [h3] at h1; exact h1
    exact ⟨key 0 _ (by decide) rfl, key 1 _ (by decide) rfl, key 2 _ (by decide) rfl⟩
theorem fn_call {f : Nat} {args : List DC} {r : DV} {v : Value} (hcall : ∀ (vs : Array Value) (w : World), (callFunc f vs).run Tryd.prog w = .ok (.enter f vs) w) (hr : dv? r = some v) (h : FnOK Tryd.prog f args r) {w : World} (hg : Gd w) {vs : List Value} (hvs : DCsR w (fun _ => False) args vs) :
    Calls Tryd.prog f vs.toArray w fun e w' => e = .returned v ∧ Below w.heap.size w w' := by
  rcases h w (fun _ => False) vs ⟨fun _ h => h.elim, hg, fun _ h => h.elim⟩ hvs with ⟨g, hg, hc⟩ | ⟨u, hg, _⟩
  · have : g = f := by
      rw [hcall] at hg
      injection hg with h1
      injection h1 with h1
      exact h1.symm
    subst this
    refine hc.mono ?_
    rintro e w' ⟨u, rfl, hu, hb⟩
    rw [dv_rel hr] at hu
    rw [hu.1]
    exact ⟨rfl, hb⟩
  · rw [hcall] at hg
    cases hg
theorem gd_below {w w' : World} (hb : Below w.heap.size w w') (h : Gd w) : Gd w' := gd_keep hb.size (fun b hb' => hb.block b (Nat.lt_of_lt_of_le hb' (gd_size h))) h
theorem text_bad (m : Md) (hm : mchk m ≠ 0) : FnOK Tryd.prog 10 [m.dc] (retS ([], 8)) := by
  have H := oCheck_fn m
  rw [(mchk_08 m).resolve_left hm] at H
  refine fn_ok (by kernel_rfl) ty_ok Tryd.func10 rfl (fun _ _ => Tryd.call10 _ _) rfl ?_
  intro hw
  clear hw
  repeat' ((conv => whnf); first | (with_reducible first | refine br_t ?_ | refine br_f ?_ | refine za ?_ | refine zg ?_) | refine zsl ?_ | refine zsg ?_ | refine zss ?_ | refine zs1 ?_ | refine zse ?_ | refine zsn ?_ | refine zsc ?_ | (with_reducible first | refine zpa ?_ | refine zqa ?_) | refine zp ?_ | refine zq ?_ | (with_reducible first | refine bc (fun h => ?_) (fun h => ?_) | refine zt ?_ | refine zf ?_ | refine br_i (fun h => ?_) (fun h => ?_)) | refine zg ?_ | refine zi ?_ | refine zb ?_)
  all_goals conv => whnf
  all_goals rfl
def txK (m : Md) (k : Nat) : Str := nowB m ++ 10 :: (m.l.take k).flatMap fun p => linB p ++ [10]
theorem txK_all (m : Md) : txK m m.l.length = textT m := by
  unfold txK textT endL
  rw [List.take_length, List.flatMap_cons, List.flatMap_map, List.append_assoc]; rfl
theorem txK_succ (m : Md) {k : Nat} (h : k < m.l.length) : txK m (k + 1) = txK m k ++ (linB m.l[k] ++ [10]) := by
  unfold txK
  rw [List.take_succ_eq_append_getElem h, List.flatMap_append]
  simp
theorem txK_le (m : Md) (k : Nat) : (txK m k).length ≤ (textT m).length := by
  rw [← txK_all]
  unfold txK
  conv => rhs; rw [List.take_length, ← List.take_append_drop k m.l, List.flatMap_append]
  simp only [List.length_append, List.length_cons]
  omega
attribute [local go_sem] str_append
set_option maxHeartbeats 1000000 in
set_option maxRecDepth 100000 in
theorem text_any (m : Md) (hm : mchk m = 0) (w : World) (hg : Gd w) (sl : Value) (hsl : Rep w (fun _ => False) (pts m.l) sl) : Calls Tryd.prog 10 #[.agg #[.int .i64 m.n, .int .i64 m.d, sl]] w fun e w' => e = .returned (.tuple #[bstr (textT m), .int .i64 0]) ∧ Below w.heap.size w w' := by
  obtain ⟨g1, g2⟩ := mchk_ok hm
  obtain ⟨k1, k2, k3⟩ := fchk_ok g2
  obtain ⟨c1, c2, c3⟩ := askd_fit g1
  have lw := wrtV_le (fit_in c2) (fit_in c3)
  have Hn := cNumber_fn m.n m.d
  rw [numV_ok c1] at Hn
  have Hc := oCheck_fn m
  rw [hm] at Hc
  obtain ⟨a, c, rfl, hpt⟩ := rep_pts hsl
  have mv : ∀ w', Below w.heap.size w w' → DCsR w' (fun _ => False) [m.dc] [.agg #[.int .i64 m.n, .int .i64 m.d, .slice a m.l.length c]] := fun w' hb => by
    refine ⟨⟨[.int .i64 m.n, .int .i64 m.d, .slice a m.l.length c], rfl, .v _ rfl ⟨?_, ?_⟩, .v _ rfl ⟨?_, ?_⟩, hsl.mono (Holds.of_below hb) (fun _ _ h => h), trivial⟩, trivial⟩
    all_goals first | exact (fit_in c2).1 | exact (fit_in c2).2 | exact (fit_in c3).1 | exact (fit_in c3).2
  obtain ⟨wb, hwb⟩ : ∃ wb, wb = w.alloc (.cells #[.int .i64 m.n, .int .i64 m.d, .slice a m.l.length c] 28) := ⟨_, rfl⟩
  have bb : Below w.heap.size w wb := by rw [hwb]; exact (Below.refl _ _).alloc (Nat.le_refl _) _
  have sb : wb.heap.size = w.heap.size + 1 := by rw [hwb]; simp
  have x0 : wb.cell? ⟨w.heap.size, 0, none⟩ = some (.int .i64 m.n) := by rw [hwb, World.cell?_alloc_new]; rfl
  have x1 : wb.cell? ⟨w.heap.size, 1, none⟩ = some (.int .i64 m.d) := by rw [hwb, World.cell?_alloc_new]; rfl
  have x2 : wb.cell? ⟨w.heap.size, 2, none⟩ = some (.slice a m.l.length c) := by rw [hwb, World.cell?_alloc_new]; rfl
  have keep : ∀ {w1 w2 : World}, Below (w.heap.size + 1) w1 w2 → ∀ o, w2.cell? ⟨w.heap.size, o, none⟩ = w1.cell? ⟨w.heap.size, o, none⟩ := fun hb o => World.cell?_of_block (hb.block _ (Nat.lt_succ_self _))
  go_enter Tryd.func10, Tryd.ntmps10
  go_wp2_with (go_at_call 23; rw [← hwb]; refine (fn_call (fun _ _ => Tryd.call23 _ _) rfl Hc (gd_below bb hg) (mv _ bb)).mono ?_; rintro e w1 ⟨rfl, hb1⟩; rw [sb] at hb1; have y0 := (keep hb1 0).trans x0; have y1 := (keep hb1 1).trans x1; have y2 := (keep hb1 2).trans x2; have b1 : Below w.heap.size w w1 := bb.trans (hb1.mono (Nat.le_succ _)); have s1 := hb1.size)
  go_wp2_with (go_at_call 20; refine (fn_call (vs := [.agg #[.int .i64 m.n, .int .i64 m.d]]) (fun _ _ => Tryd.call20 _ _) rfl Hn (gd_below b1 hg) ⟨⟨[.int .i64 m.n, .int .i64 m.d], rfl, .v _ rfl (fit_in c2), .v _ rfl (fit_in c3), trivial⟩, trivial⟩).mono ?_; rintro e w2 ⟨rfl, hb2⟩; have z2 := (keep (hb2.mono (by omega)) 2).trans y2; have b2 : Below w.heap.size w w2 := b1.trans (hb2.mono b1.size); have s2 := hb2.size)
  refine (write_str w2.heap.size w2.heap.size [] (110 :: 111 :: 119 :: 32 :: (wrtV m.n m.d ++ [10])) _ (bld_new w2 69 5) (by simp only [List.length_append, List.length_cons, List.length_nil]; omega) (by simp)).mono ?_
  rintro e w3 ⟨rfl, h3, hb3⟩
  have b3 : Below w2.heap.size w2 w3 := ((Below.refl _ _).alloc (Nat.le_refl _) _).trans hb3
  have e3 : w3.cell? ⟨w.heap.size, 2, none⟩ = some (.slice a m.l.length c) := (keep (b3.mono (by omega)) 2).trans z2
  go_wp2_with (fail)
  go_loopw [32] (fun i wr => ∃ k : Nat, k ≤ m.l.length ∧ i = .int .i64 k ∧ Lib.IsBuilder 69 5 w2.heap.size w2.heap.size (Lib.byteCells (txK m k)) wr ∧ Below w2.heap.size w2 wr) (fun i _ => m.l.length - (intOf i).toNat)
  case atStart => exact ⟨0, Nat.zero_le _, rfl, h3, b3⟩
  case round =>
    obtain ⟨k, hk, rfl, hbl, hbw⟩ := hrel
    have bw : Below w.heap.size w wr := b2.trans (hbw.mono b2.size)
    have swr := hbw.size
    have swr0 : w.heap.size ≤ wr.heap.size := by omega
    have hT := txK_le m k
    have hT2 := text_len hm
    rcases Nat.lt_or_ge k m.l.length with hlt | hge
    · obtain ⟨b0, off, ha, hb0, p0, p1, p2⟩ := hpt k hlt
      subst ha
      have qq : ∀ o, wr.cell? ⟨b0, o, none⟩ = w.cell? ⟨b0, o, none⟩ := fun o => World.cell?_of_block (bw.block b0 hb0)
      have q0 := (qq _).trans p0
      have q1 : wr.cell? ⟨b0, off + (k * 3 + 1), none⟩ = some (.int .i64 m.l[k].a) := (qq _).trans p1
      have q2 : wr.cell? ⟨b0, off + (k * 3 + 2), none⟩ = some (.int .i64 m.l[k].b) := (qq _).trans p2
      clear qq p0 p1 p2
      have hp := k2 _ (List.getElem_mem hlt)
      have hs := txK_succ m hlt
      obtain ⟨f1, f2, f3⟩ := pt_fit hp
      generalize m.l[k] = p at *
      clear hpt
      have li := itoa_le (fit_in f1)
      have la := itoa_le (fit_in f2)
      have lb := itoa_le (fit_in f3)
      obtain ⟨S, hS⟩ : ∃ S, S = itoa p.id ++ 32 :: (itoa p.a ++ 32 :: itoa p.b) := ⟨_, rfl⟩
      have lS : S.length ≤ 65 := by rw [hS]; simp only [List.length_append, List.length_cons]; omega
      have Hp := cpoint_fn p.id p.a p.b
      rw [← hS] at Hp
      have hlS : linB p ++ [10] = 112 :: 111 :: 105 :: 110 :: 116 :: 32 :: (S ++ [10]) := by rw [hS]; show linB p ++ [10] = _; unfold linB pointS wPoint; simp
      clear hS
      obtain ⟨wp, hwp⟩ : ∃ wp, wp = wr.alloc (.cells #[.int .i64 p.id, .int .i64 p.a, .int .i64 p.b] 46) := ⟨_, rfl⟩
      have bp : Below wr.heap.size wr wp := by rw [hwp]; exact (Below.refl _ _).alloc (Nat.le_refl _) _
      go_wp2_with (go_at_call 33; rw [← hwp]; refine (fn_call (vs := [.agg #[.int .i64 p.id, .int .i64 p.a, .int .i64 p.b]]) (fun _ _ => Tryd.call33 _ _) rfl Hp (gd_below (bw.trans (bp.mono swr0)) hg) ⟨⟨[.int .i64 p.id, .int .i64 p.a, .int .i64 p.b], rfl, .v _ rfl (fit_in f1), .v _ rfl (fit_in f2), .v _ rfl (fit_in f3), trivial⟩, trivial⟩).mono ?_; rintro e w4 ⟨rfl, hb4⟩)
      have b4 : Below wr.heap.size wr w4 := bp.trans (hb4.mono bp.size)
      refine (write_str w2.heap.size w2.heap.size (txK m k) (112 :: 111 :: 105 :: 110 :: 116 :: 32 :: (S ++ [10])) w4 (bld_below hbl b4) (by simp only [List.length_append, List.length_cons, List.length_nil]; omega) (by have := b4.size; omega)).mono ?_
      rintro e w5 ⟨rfl, h5, hb5⟩
      go_wp2_with (fail)
      go_roundw
      case rel => exact ⟨k + 1, by omega, by go_num, by rw [hs, hlS]; exact h5, (hbw.trans (b4.mono swr)).trans hb5⟩
      case measure => simp [intOf]; omega
    · obtain rfl : k = m.l.length := by omega
      have hne : txK m m.l.length ≠ [] := by unfold txK nowB wNow; simp
      go_wp2_with (go_at_call 34; refine (Tryd.Builder_String w2.heap.size w2.heap.size (txK m m.l.length) wr hbl hne).mono ?_; rintro e w5 ⟨rfl, hb5⟩)
      go_ret2
      rw [txK_all]
      exact ⟨rfl, bw.trans (hb5.mono b2.size)⟩
theorem cText_fn (m : Md) : FnOK Tryd.prog 10 [m.dc] (retS (textSV m)) := by
  unfold textSV
  by_cases hm : mchk m = 0
  · rw [if_pos hm]
    refine fun w M vs hM hvs => .inl ⟨10, Tryd.call10 _ _, ?_⟩
    match vs, hvs with
    | [v], hvs =>
      obtain ⟨⟨us, rfl, hu⟩, _⟩ := hvs
      match us, hu with
      | [x, y, z], hu =>
        obtain ⟨hx, hy, hz, _⟩ := hu
        have hx := rep_iv hx
        have hy := rep_iv hy
        subst hx hy
        exact (text_any m hm w hM.gd z (hz.mono (Holds.refl _ _) (fun _ _ h => h.elim))).mono fun e w' ⟨he, hb⟩ => ⟨_, he, ⟨_, rfl, .v _ rfl trivial, .v (.int .i64 0) rfl ⟨by decide, by decide⟩, trivial⟩, hb⟩
      | [], hu => exact hu.elim
      | [_], hu => exact hu.2.elim
      | [_, _], hu => exact hu.2.2.elim
      | _ :: _ :: _ :: _ :: _, hu => exact hu.2.2.2.elim
    | [], hvs => exact hvs.elim
    | _ :: _ :: _, hvs => exact hvs.2.elim
  · rw [if_neg hm]
    exact text_bad m hm
end Go.Proofs.YtgdpogdgpfjnoaaDoor

namespace Go.Proofs.YtgdpogdgpfjnoaaDoor
open Go Go.RowKit Go.Sort Sx
open Go.Lib hiding intOf
abbrev retPo (x : Option (Int × Int × Int)) : DV := match x with | some p => .tup [pt p.1 p.2.1 p.2.2, .one (bol true)] | none => .tup [pt 0 0 0, .one (bol false)]
def rd3 (wh : Str → Int × Bool) : List Str → Option (Int × Int × Int)
  | [a, b, c] => if (wh a).2 = true ∧ (wh b).2 = true ∧ (wh c).2 = true then some ((wh a).1, (wh b).1, (wh c).1) else none
  | _ => none
theorem rd3_len {wh : Str → Int × Bool} : ∀ {l : List Str}, l.length ≠ 3 → rd3 wh l = none
  | [], _ => rfl
  | [_], _ => rfl
  | [_, _], _ => rfl
  | [_, _, _], h => absurd rfl h
  | _ :: _ :: _ :: _ :: _, _ => rfl
theorem creadPoint_fn (l : List Str) (hl : l.length ≤ 1000000) (hs : ∀ x ∈ l, x.length ≤ 1000000) : FnOK Tryd.prog 39 [.one (strs l)] (retPo (rd3 wholeV l)) := by
  by_cases h3 : l.length = 3
  · match l, h3, hs with
    | [a, b, c], _, hs =>
      have Ha := whole_fn a (hs a (by simp))
      have Hb := whole_fn b (hs b (by simp))
      have Hc := whole_fn c (hs c (by simp))
      unfold rd3
      dsimp only
      generalize wholeV a = p at *
      generalize wholeV b = q at *
      generalize wholeV c = r at *
      obtain ⟨pn, pb⟩ := p
      obtain ⟨qn, qb⟩ := q
      obtain ⟨rn, rb⟩ := r
      simp only [retWh] at Ha Hb Hc
      dsimp only
      have he : ([a, b, c].map fun s => [str s]).length = 3 := rfl
      have g0 : ([a, b, c].map fun s => [str s])[(0 : Int).toNat]? = some [str a] := rfl
      have w1 : IntKind.i64.wrap (0 + 1) = 1 := by decide
      have w2 : IntKind.i64.wrap (IntKind.i64.wrap (0 + 1) + 1) = 2 := by decide
      have w3 : IntKind.i64.wrap (IntKind.i64.wrap (IntKind.i64.wrap (0 + 1) + 1) + 1) = 3 := by decide
      have g1 : ([a, b, c].map fun s => [str s])[(IntKind.i64.wrap (0 + 1)).toNat]? = some [str b] := by rw [w1]; rfl
      have g2 : ([a, b, c].map fun s => [str s])[(IntKind.i64.wrap (IntKind.i64.wrap (0 + 1) + 1)).toNat]? = some [str c] := by rw [w2]; rfl
      refine fn_ok (by kernel_rfl) ty_ok Tryd.func39 rfl (fun _ _ => Tryd.call39 _ _) rfl ?_
      intro hw
      clear hw
      repeat' ((conv => whnf); first | (with_reducible first | refine br_t ?_ | refine br_f ?_ | refine za ?_ | refine zg ?_) | refine zsl ?_ | refine zsg ?_ | refine zss ?_ | refine zs1 ?_ | refine zse ?_ | refine zsn ?_ | refine zsc ?_ | (with_reducible first | refine zpa ?_ | refine zqa ?_) | refine zp ?_ | refine zq ?_ | (with_reducible first | refine bc (fun h => ?_) (fun h => ?_) | refine zt ?_ | refine zf ?_ | refine br_i (fun h => ?_) (fun h => ?_)) | refine zg ?_ | refine zi ?_ | refine zb ?_)
      refine loop_rounds 4 ?_
      refine rounds_step [2, 4] (by kernel_rfl) ty_ok ?_
      cases pb
      · rw [if_neg (by simp)]
        repeat' ((conv => whnf); first | (with_reducible first | refine br_t ?_ | refine br_f ?_ | refine za ?_ | refine zg ?_) | refine zsl ?_ | refine zsg ?_ | refine zss ?_ | refine zs1 ?_ | refine zse ?_ | refine zsn ?_ | refine zsc ?_ | (with_reducible first | refine zpa ?_ | refine zqa ?_) | refine zp ?_ | refine zq ?_ | (with_reducible first | refine bc (fun h => ?_) (fun h => ?_) | refine zt ?_ | refine zf ?_ | refine br_i (fun h => ?_) (fun h => ?_)) | refine zg ?_ | refine zi ?_ | refine zb ?_)
        all_goals conv => whnf
        all_goals rfl
      repeat' ((conv => whnf); first | (with_reducible first | refine br_t ?_ | refine br_f ?_ | refine za ?_ | refine zg ?_) | refine zsl ?_ | refine zsg ?_ | refine zss ?_ | refine zs1 ?_ | refine zse ?_ | refine zsn ?_ | refine zsc ?_ | (with_reducible first | refine zpa ?_ | refine zqa ?_) | refine zp ?_ | refine zq ?_ | (with_reducible first | refine bc (fun h => ?_) (fun h => ?_) | refine zt ?_ | refine zf ?_ | refine br_i (fun h => ?_) (fun h => ?_)) | refine zg ?_ | refine zi ?_ | refine zb ?_)
      refine rounds_step [2, 4] (by kernel_rfl) ty_ok ?_
      cases qb
      · rw [if_neg (by simp)]
        repeat' ((conv => whnf); first | (with_reducible first | refine br_t ?_ | refine br_f ?_ | refine za ?_ | refine zg ?_) | refine zsl ?_ | refine zsg ?_ | refine zss ?_ | refine zs1 ?_ | refine zse ?_ | refine zsn ?_ | refine zsc ?_ | (with_reducible first | refine zpa ?_ | refine zqa ?_) | refine zp ?_ | refine zq ?_ | (with_reducible first | refine bc (fun h => ?_) (fun h => ?_) | refine zt ?_ | refine zf ?_ | refine br_i (fun h => ?_) (fun h => ?_)) | refine zg ?_ | refine zi ?_ | refine zb ?_)
        all_goals conv => whnf
        all_goals rfl
      repeat' ((conv => whnf); first | (with_reducible first | refine br_t ?_ | refine br_f ?_ | refine za ?_ | refine zg ?_) | refine zsl ?_ | refine zsg ?_ | refine zss ?_ | refine zs1 ?_ | refine zse ?_ | refine zsn ?_ | refine zsc ?_ | (with_reducible first | refine zpa ?_ | refine zqa ?_) | refine zp ?_ | refine zq ?_ | (with_reducible first | refine bc (fun h => ?_) (fun h => ?_) | refine zt ?_ | refine zf ?_ | refine br_i (fun h => ?_) (fun h => ?_)) | refine zg ?_ | refine zi ?_ | refine zb ?_)
      refine rounds_step [2, 4] (by kernel_rfl) ty_ok ?_
      cases rb
      · rw [if_neg (by simp)]
        repeat' ((conv => whnf); first | (with_reducible first | refine br_t ?_ | refine br_f ?_ | refine za ?_ | refine zg ?_) | refine zsl ?_ | refine zsg ?_ | refine zss ?_ | refine zs1 ?_ | refine zse ?_ | refine zsn ?_ | refine zsc ?_ | (with_reducible first | refine zpa ?_ | refine zqa ?_) | refine zp ?_ | refine zq ?_ | (with_reducible first | refine bc (fun h => ?_) (fun h => ?_) | refine zt ?_ | refine zf ?_ | refine br_i (fun h => ?_) (fun h => ?_)) | refine zg ?_ | refine zi ?_ | refine zb ?_)
        all_goals conv => whnf
        all_goals rfl
      rw [if_pos ⟨rfl, rfl, rfl⟩]
      repeat' ((conv => whnf); first | (with_reducible first | refine br_t ?_ | refine br_f ?_ | refine za ?_ | refine zg ?_) | refine zsl ?_ | refine zsg ?_ | refine zss ?_ | refine zs1 ?_ | refine zse ?_ | refine zsn ?_ | refine zsc ?_ | (with_reducible first | refine zpa ?_ | refine zqa ?_) | refine zp ?_ | refine zq ?_ | (with_reducible first | refine bc (fun h => ?_) (fun h => ?_) | refine zt ?_ | refine zf ?_ | refine br_i (fun h => ?_) (fun h => ?_)) | refine zg ?_ | refine zi ?_ | refine zb ?_)
      refine rounds_step [2, 4] (by kernel_rfl) ty_ok ?_
      repeat' ((conv => whnf); first | (with_reducible first | refine br_t ?_ | refine br_f ?_ | refine za ?_ | refine zg ?_) | refine zsl ?_ | refine zsg ?_ | refine zss ?_ | refine zs1 ?_ | refine zse ?_ | refine zsn ?_ | refine zsc ?_ | (with_reducible first | refine zpa ?_ | refine zqa ?_) | refine zp ?_ | refine zq ?_ | (with_reducible first | refine bc (fun h => ?_) (fun h => ?_) | refine zt ?_ | refine zf ?_ | refine br_i (fun h => ?_) (fun h => ?_)) | refine zg ?_ | refine zi ?_ | refine zb ?_)
      all_goals conv => whnf
      all_goals rfl
  · rw [rd3_len h3]
    have e : (l.map fun s => [str s]).length = l.length := List.length_map ..
    refine fn_ok (by kernel_rfl) ty_ok Tryd.func39 rfl (fun _ _ => Tryd.call39 _ _) rfl ?_
    intro hw
    clear hw
    repeat' ((conv => whnf); first | (with_reducible first | refine br_t ?_ | refine br_f ?_ | refine za ?_ | refine zg ?_) | refine zsl ?_ | refine zsg ?_ | refine zss ?_ | refine zs1 ?_ | refine zse ?_ | refine zsn ?_ | refine zsc ?_ | (with_reducible first | refine zpa ?_ | refine zqa ?_) | refine zp ?_ | refine zq ?_ | (with_reducible first | refine bc (fun h => ?_) (fun h => ?_) | refine zt ?_ | refine zf ?_ | refine br_i (fun h => ?_) (fun h => ?_)) | refine zg ?_ | refine zi ?_ | refine zb ?_)
    all_goals conv => whnf
    all_goals rfl
end Go.Proofs.YtgdpogdgpfjnoaaDoor

namespace Go.Proofs.YtgdpogdgpfjnoaaDoor
open Go Go.RowKit Go.Sort Sx
open Go.Lib hiding intOf
theorem back_cases (s : Str) (n d : Int) : (chk n d = 0 ∧ wrtV n d = s ∧ backV s n d = ((n, d), 0)) ∨ (chk n d = 0 ∧ wrtV n d ≠ s ∧ backV s n d = ((0, 0), 12)) ∨ (chk n d = 8 ∧ backV s n d = ((0, 0), 12)) := by
  by_cases h : chk n d = 0
  · by_cases e : wrtV n d = s
    · exact .inl ⟨h, e, backV_yes h e⟩
    · exact .inr (.inl ⟨h, e, backV_ne e⟩)
  · exact .inr (.inr ⟨(chk_08 n d).resolve_left h, backV_nc h⟩)
theorem fit1 : fitI 1 := ⟨by decide, by decide⟩
theorem rcReadNumber_fn (s : Str) (hs : s.length ≤ 100000) : FnOK Tryd.prog 40 [.one (str s)] (retR3 (readR s)) := by
  have Hs : FnOK Tryd.prog 25 [.one (str s), .one (.v (.int .u8 47))] (.c (.one (strs (spl 47 s)))) := rcCut_fn s 47 hs
  have hl2 := spl_each 47 s
  unfold readR
  cases hL : spl 47 s with
  | nil => exact absurd hL (spl_ne 47 s)
  | cons w0 t =>
    rw [hL] at Hs hl2
    have Ha := rcWhole_fn w0 (Nat.le_trans (hl2 w0 (by simp)) (by omega))
    have hfa : (wholeR w0).2 = true → fitI (wholeR w0).1 := fun h => (wholeR_ok h).1
    have gl : ((w0 :: t).map fun s => [str s]).length = t.length + 1 := by simp
    have g0 : ((w0 :: t).map fun s => [str s])[(0 : Int).toNat]? = some [str w0] := rfl
    simp only [List.getElem?_cons_zero, Option.getD_some, List.length_cons]
    generalize wholeR w0 = p at *
    obtain ⟨pn, pb⟩ := p
    simp only [retWr] at Ha hfa ⊢
    cases t with
    | nil =>
      have gl : ([w0].map fun s => [str s]).length = 1 := rfl
      simp only [List.length_nil, Nat.zero_add, Nat.lt_irrefl, false_implies, and_true, if_false]
      refine fn_ok (by kernel_rfl) ty_ok Tryd.func40 rfl (fun _ _ => Tryd.call40 _ _) rfl ?_
      intro hw
      clear hw
      cases pb
      · rw [if_neg (by decide)]
        repeat' ((conv => whnf); first | (with_reducible first | refine br_t ?_ | refine br_f ?_ | refine za ?_ | refine zg ?_) | refine zsl ?_ | refine zsg ?_ | refine zss ?_ | refine zs1 ?_ | refine zse ?_ | refine zsn ?_ | refine zsc ?_ | (with_reducible first | refine zpa ?_ | refine zqa ?_) | refine zp ?_ | refine zq ?_ | (with_reducible first | refine bc (fun h => ?_) (fun h => ?_) | refine zt ?_ | refine zf ?_ | refine br_i (fun h => ?_) (fun h => ?_)) | refine zg ?_ | refine zi ?_ | refine zb ?_)
        all_goals conv => whnf
        all_goals rfl
      · rw [if_pos rfl]
        have Hn := rcwritten_fn (hfa rfl) fit1
        have Hc := rcheck_fn pn 1
        rcases back_cases s pn 1 with ⟨h, e, b⟩ | ⟨h, e, b⟩ | ⟨h, b⟩
        all_goals rw [h] at Hc
        all_goals rw [b]
        all_goals clear h b
        repeat' ((conv => whnf); first | (with_reducible first | refine br_t ?_ | refine br_f ?_ | refine za ?_ | refine zg ?_) | refine zsl ?_ | refine zsg ?_ | refine zss ?_ | refine zs1 ?_ | refine zse ?_ | refine zsn ?_ | refine zsc ?_ | (with_reducible first | refine zpa ?_ | refine zqa ?_) | refine zp ?_ | refine zq ?_ | (with_reducible first | refine bc (fun h => ?_) (fun h => ?_) | refine zt ?_ | refine zf ?_ | refine br_i (fun h => ?_) (fun h => ?_)) | refine zg ?_ | refine zi ?_ | refine zb ?_)
        all_goals conv => whnf
        all_goals first | rfl | contradiction
    | cons w1 t =>
      have Hb := rcWhole_fn w1 (Nat.le_trans (hl2 w1 (by simp)) (by omega))
      have hfb : (wholeR w1).2 = true → fitI (wholeR w1).1 := fun h => (wholeR_ok h).1
      have g1 : ((w0 :: w1 :: t).map fun s => [str s])[(1 : Int).toNat]? = some [str w1] := rfl
      rw [List.length_cons] at gl
      simp only [List.length_cons, List.getElem?_cons_succ, List.getElem?_cons_zero, Option.getD_some, show 1 < t.length + 1 + 1 from by omega, true_implies, if_true]
      generalize wholeR w1 = q at *
      obtain ⟨qn, qb⟩ := q
      simp only [retWr] at Hb hfb ⊢
      refine fn_ok (by kernel_rfl) ty_ok Tryd.func40 rfl (fun _ _ => Tryd.call40 _ _) rfl ?_
      intro hw
      clear hw
      cases pb
      · rw [if_neg (by simp)]
        repeat' ((conv => whnf); first | (with_reducible first | refine br_t ?_ | refine br_f ?_ | refine za ?_ | refine zg ?_) | refine zsl ?_ | refine zsg ?_ | refine zss ?_ | refine zs1 ?_ | refine zse ?_ | refine zsn ?_ | refine zsc ?_ | (with_reducible first | refine zpa ?_ | refine zqa ?_) | refine zp ?_ | refine zq ?_ | (with_reducible first | refine bc (fun h => ?_) (fun h => ?_) | refine zt ?_ | refine zf ?_ | refine br_i (fun h => ?_) (fun h => ?_)) | refine zg ?_ | refine zi ?_ | refine zb ?_)
        all_goals conv => whnf
        all_goals rfl
      · cases qb
        · rw [if_neg (by simp)]
          repeat' ((conv => whnf); first | (with_reducible first | refine br_t ?_ | refine br_f ?_ | refine za ?_ | refine zg ?_) | refine zsl ?_ | refine zsg ?_ | refine zss ?_ | refine zs1 ?_ | refine zse ?_ | refine zsn ?_ | refine zsc ?_ | (with_reducible first | refine zpa ?_ | refine zqa ?_) | refine zp ?_ | refine zq ?_ | (with_reducible first | refine bc (fun h => ?_) (fun h => ?_) | refine zt ?_ | refine zf ?_ | refine br_i (fun h => ?_) (fun h => ?_)) | refine zg ?_ | refine zi ?_ | refine zb ?_)
          all_goals conv => whnf
          all_goals rfl
        · rw [if_pos ⟨rfl, rfl⟩]
          have Hn := rcwritten_fn (hfa rfl) (hfb rfl)
          have Hc := rcheck_fn pn qn
          rcases back_cases s pn qn with ⟨h, e, b⟩ | ⟨h, e, b⟩ | ⟨h, b⟩
          all_goals rw [h] at Hc
          all_goals rw [b]
          all_goals clear h b
          repeat' ((conv => whnf); first | (with_reducible first | refine br_t ?_ | refine br_f ?_ | refine za ?_ | refine zg ?_) | refine zsl ?_ | refine zsg ?_ | refine zss ?_ | refine zs1 ?_ | refine zse ?_ | refine zsn ?_ | refine zsc ?_ | (with_reducible first | refine zpa ?_ | refine zqa ?_) | refine zp ?_ | refine zq ?_ | (with_reducible first | refine bc (fun h => ?_) (fun h => ?_) | refine zt ?_ | refine zf ?_ | refine br_i (fun h => ?_) (fun h => ?_)) | refine zg ?_ | refine zi ?_ | refine zb ?_)
          all_goals conv => whnf
          all_goals first | rfl | contradiction
theorem rcpoint_fn {i a b : Int} (h1 : fitI i) (h2 : fitI a) (h3 : fitI b) : FnOK Tryd.prog 61 [pt i a b] (.c (.one (str (itoa i ++ 32 :: (itoa a ++ 32 :: itoa b))))) := by
  rw [← pointS_app (i, a, b)]
  have H1 := rcDecimal_fn i h1
  have H2 := rcDecimal_fn a h2
  have H3 := rcDecimal_fn b h3
  have e : IntKind.i64.wrap i = i := IntWalk.i64_in _ (by have := h1.1; have := h1.2; omega)
  have l1 := itoa_le (fit_in h1)
  have l2 := itoa_le (fit_in h2)
  have l3 := itoa_le (fit_in h3)
  have H0 : FnOK Tryd.prog 76 [.one (i64 (IntKind.i64.wrap i))] (.c (.one (str (itoa i)))) := by rw [e]; exact H1
  refine fn_ok (by kernel_rfl) ty_ok Tryd.func61 rfl (fun _ _ => Tryd.call61 _ _) rfl ?_
  intro hw
  clear hw
  repeat' ((conv => whnf); first | (with_reducible first | refine br_t ?_ | refine br_f ?_ | refine za ?_ | refine zg ?_) | refine zsl ?_ | refine zsg ?_ | refine zss ?_ | refine zs1 ?_ | refine zse ?_ | refine zsn ?_ | refine zsc ?_ | (with_reducible first | refine zpa ?_ | refine zqa ?_) | refine zp ?_ | refine zq ?_ | (with_reducible first | refine bc (fun h => ?_) (fun h => ?_) | refine zt ?_ | refine zf ?_ | refine br_i (fun h => ?_) (fun h => ?_)) | refine zg ?_ | refine zi ?_ | refine zb ?_)
  all_goals conv => whnf
  all_goals rfl
def rd3R (w : List Str) : Option (Int × Int × Int) := match rd3 wholeR w with | some p => if 0 ≤ p.1 ∧ p.1 ≤ 65535 then some p else none | none => none
theorem rcpoints_fn (l : List Str) (hl : l.length ≤ 1000000) (hs : ∀ x ∈ l, x.length ≤ 1000000) : FnOK Tryd.prog 41 [.one (strs l)] (retPo (rd3R l)) := by
  by_cases h3 : l.length = 3
  · match l, h3, hs with
    | [a, b, c], _, hs =>
      have Ha := rcWhole_fn a (hs a (by simp))
      have Hb := rcWhole_fn b (hs b (by simp))
      have Hc := rcWhole_fn c (hs c (by simp))
      unfold rd3R rd3
      dsimp only
      generalize wholeR a = p at *
      generalize wholeR b = q at *
      generalize wholeR c = r at *
      obtain ⟨pn, pb⟩ := p
      obtain ⟨qn, qb⟩ := q
      obtain ⟨rn, rb⟩ := r
      simp only [retWr] at Ha Hb Hc
      dsimp only
      have he : ([a, b, c].map fun s => [str s]).length = 3 := rfl
      have g0 : ([a, b, c].map fun s => [str s])[(0 : Int).toNat]? = some [str a] := rfl
      have g1 : ([a, b, c].map fun s => [str s])[(1 : Int).toNat]? = some [str b] := rfl
      have g2 : ([a, b, c].map fun s => [str s])[(2 : Int).toNat]? = some [str c] := rfl
      refine fn_ok (by kernel_rfl) ty_ok Tryd.func41 rfl (fun _ _ => Tryd.call41 _ _) rfl ?_
      intro hw
      clear hw
      by_cases hall : pb = true ∧ qb = true ∧ rb = true
      · obtain ⟨rfl, rfl, rfl⟩ := hall
        rw [if_pos ⟨rfl, rfl, rfl⟩]
        dsimp only
        by_cases hr : 0 ≤ pn ∧ pn ≤ 65535
        · rw [if_pos hr]
          repeat' ((conv => whnf); first | (with_reducible first | refine br_t ?_ | refine br_f ?_ | refine za ?_ | refine zg ?_) | refine zsl ?_ | refine zsg ?_ | refine zss ?_ | refine zs1 ?_ | refine zse ?_ | refine zsn ?_ | refine zsc ?_ | (with_reducible first | refine zpa ?_ | refine zqa ?_) | refine zp ?_ | refine zq ?_ | (with_reducible first | refine bc (fun h => ?_) (fun h => ?_) | refine zt ?_ | refine zf ?_ | refine br_i (fun h => ?_) (fun h => ?_)) | refine zg ?_ | refine zi ?_ | refine zb ?_)
          all_goals conv => whnf
          all_goals rfl
        · rw [if_neg hr]
          repeat' ((conv => whnf); first | (with_reducible first | refine br_t ?_ | refine br_f ?_ | refine za ?_ | refine zg ?_) | refine zsl ?_ | refine zsg ?_ | refine zss ?_ | refine zs1 ?_ | refine zse ?_ | refine zsn ?_ | refine zsc ?_ | (with_reducible first | refine zpa ?_ | refine zqa ?_) | refine zp ?_ | refine zq ?_ | (with_reducible first | refine bc (fun h => ?_) (fun h => ?_) | refine zt ?_ | refine zf ?_ | refine br_i (fun h => ?_) (fun h => ?_)) | refine zg ?_ | refine zi ?_ | refine zb ?_)
          all_goals conv => whnf
          all_goals first | rfl | (exfalso; omega)
      · rw [if_neg hall]
        dsimp only
        cases pb
        all_goals cases qb
        all_goals cases rb
        all_goals try (exact absurd ⟨rfl, rfl, rfl⟩ hall)
        all_goals clear hall
        repeat' ((conv => whnf); first | (with_reducible first | refine br_t ?_ | refine br_f ?_ | refine za ?_ | refine zg ?_) | refine zsl ?_ | refine zsg ?_ | refine zss ?_ | refine zs1 ?_ | refine zse ?_ | refine zsn ?_ | refine zsc ?_ | (with_reducible first | refine zpa ?_ | refine zqa ?_) | refine zp ?_ | refine zq ?_ | (with_reducible first | refine bc (fun h => ?_) (fun h => ?_) | refine zt ?_ | refine zf ?_ | refine br_i (fun h => ?_) (fun h => ?_)) | refine zg ?_ | refine zi ?_ | refine zb ?_)
        all_goals conv => whnf
        all_goals rfl
  · rw [show rd3R l = none by unfold rd3R; rw [rd3_len h3]]
    have e : (l.map fun s => [str s]).length = l.length := List.length_map ..
    refine fn_ok (by kernel_rfl) ty_ok Tryd.func41 rfl (fun _ _ => Tryd.call41 _ _) rfl ?_
    intro hw
    clear hw
    repeat' ((conv => whnf); first | (with_reducible first | refine br_t ?_ | refine br_f ?_ | refine za ?_ | refine zg ?_) | refine zsl ?_ | refine zsg ?_ | refine zss ?_ | refine zs1 ?_ | refine zse ?_ | refine zsn ?_ | refine zsc ?_ | (with_reducible first | refine zpa ?_ | refine zqa ?_) | refine zp ?_ | refine zq ?_ | (with_reducible first | refine bc (fun h => ?_) (fun h => ?_) | refine zt ?_ | refine zf ?_ | refine br_i (fun h => ?_) (fun h => ?_)) | refine zg ?_ | refine zi ?_ | refine zb ?_)
    all_goals conv => whnf
    all_goals rfl
end Go.Proofs.YtgdpogdgpfjnoaaDoor

namespace Go.Proofs.YtgdpogdgpfjnoaaDoor
open Go Go.RowKit Go.Sort Sx
open Go.Lib hiding intOf
theorem rctext_fn (m : Md) (hm : mchk m = 0) : FnOK Tryd.prog 35 [m.dc] (.c (.one (str (textT m)))) := by
  obtain ⟨g1, g2⟩ := mchk_ok hm
  obtain ⟨k1, k2, k3⟩ := fchk_ok g2
  obtain ⟨c1, c2, c3⟩ := askd_fit g1
  have lw := wrtV_le (fit_in c2) (fit_in c3)
  have Hw := rcwritten_fn c2 c3
  have hT2 := text_len hm
  have he : (m.l.map Pt.c).length = m.l.length := List.length_map ..
  have e0 : txK m 0 = ([110, 111, 119, 32] ++ wrtV m.n m.d) ++ [10] := by unfold txK nowB wNow; simp
  rw [← txK_all]
  refine fn_ok (by kernel_rfl) ty_ok Tryd.func35 rfl (fun _ _ => Tryd.call35 _ _) rfl ?_
  intro hw
  clear hw
  repeat' ((conv => whnf); first | (with_reducible first | refine br_t ?_ | refine br_f ?_ | refine za ?_ | refine zg ?_) | refine zsl ?_ | refine zsg ?_ | refine zss ?_ | refine zs1 ?_ | refine zse ?_ | refine zsn ?_ | refine zsc ?_ | (with_reducible first | refine zpa ?_ | refine zqa ?_) | refine zp ?_ | refine zq ?_ | (with_reducible first | refine bc (fun h => ?_) (fun h => ?_) | refine zt ?_ | refine zf ?_ | refine br_i (fun h => ?_) (fun h => ?_)) | refine zg ?_ | refine zi ?_ | refine zb ?_)
  refine loop_J (by kernel_rfl) ty_ok (σ := Nat) (fun i => [(4, sV (.int .i64 (i : Nat))), (3, sD (str (txK m i)))]) (fun _ => []) (fun i => i ≤ m.l.length) (fun i => m.l.length - i) 0 (Nat.zero_le _) ?_ ?_
  · rw [e0]
    (conv => whnf); exact zent
  · intro i hi
    have hTi := txK_le m i
    by_cases h : i = m.l.length
    · subst h
      repeat' ((conv => whnf); first | (with_reducible first | refine br_t ?_ | refine br_f ?_ | refine za ?_ | refine zg ?_) | refine zsl ?_ | refine zsg ?_ | refine zss ?_ | refine zs1 ?_ | refine zse ?_ | refine zsn ?_ | refine zsc ?_ | (with_reducible first | refine zpa ?_ | refine zqa ?_) | refine zp ?_ | refine zq ?_ | (with_reducible first | refine bc (fun h => ?_) (fun h => ?_) | refine zt ?_ | refine zf ?_ | refine br_i (fun h => ?_) (fun h => ?_)) | refine zg ?_ | refine zi ?_ | refine zb ?_)
      all_goals conv => whnf
      all_goals rfl
    · have hlt : i < m.l.length := by omega
      have hg := pts_get hlt
      have hp := k2 _ (List.getElem_mem hlt)
      have hs := txK_succ m hlt
      obtain ⟨f1, f2, f3⟩ := pt_fit hp
      have Hp := rcpoint_fn f1 f2 f3
      have li := itoa_le (fit_in f1)
      have la := itoa_le (fit_in f2)
      have lb := itoa_le (fit_in f3)
      obtain ⟨S, hS⟩ : ∃ S, S = itoa m.l[i].id ++ 32 :: (itoa m.l[i].a ++ 32 :: itoa m.l[i].b) := ⟨_, rfl⟩
      have lS : S.length ≤ 65 := by rw [hS]; simp only [List.length_append, List.length_cons]; omega
      rw [← hS] at Hp
      have hlS : linB m.l[i] ++ [10] = ([112, 111, 105, 110, 116, 32] ++ S) ++ [10] := by rw [hS]; rfl
      rw [hlS] at hs
      clear hS hlS
      repeat' ((conv => whnf); first | (with_reducible first | refine br_t ?_ | refine br_f ?_ | refine za ?_ | refine zg ?_) | refine zsl ?_ | refine zsg ?_ | refine zss ?_ | refine zs1 ?_ | refine zse ?_ | refine zsn ?_ | refine zsc ?_ | (with_reducible first | refine zpa ?_ | refine zqa ?_) | refine zp ?_ | refine zq ?_ | (with_reducible first | refine bc (fun h => ?_) (fun h => ?_) | refine zt ?_ | refine zf ?_ | refine br_i (fun h => ?_) (fun h => ?_)) | refine zg ?_ | refine zi ?_ | refine zb ?_)
      all_goals conv => whnf
      refine ⟨i + 1, by omega, ?_, by omega⟩
      rw [hs]
      (conv => whnf); exact zent
theorem rcText_fn (m : Md) : FnOK Tryd.prog 11 [m.dc] (retS (textSV m)) := by
  have Hc := roCheck_fn m
  unfold textSV
  by_cases hm : mchk m = 0
  · rw [if_pos hm]
    rw [hm] at Hc
    have Ht := rctext_fn m hm
    refine fn_ok (by kernel_rfl) ty_ok Tryd.func11 rfl (fun _ _ => Tryd.call11 _ _) rfl ?_
    intro hw
    clear hw
    repeat' ((conv => whnf); first | (with_reducible first | refine br_t ?_ | refine br_f ?_ | refine za ?_ | refine zg ?_) | refine zsl ?_ | refine zsg ?_ | refine zss ?_ | refine zs1 ?_ | refine zse ?_ | refine zsn ?_ | refine zsc ?_ | (with_reducible first | refine zpa ?_ | refine zqa ?_) | refine zp ?_ | refine zq ?_ | (with_reducible first | refine bc (fun h => ?_) (fun h => ?_) | refine zt ?_ | refine zf ?_ | refine br_i (fun h => ?_) (fun h => ?_)) | refine zg ?_ | refine zi ?_ | refine zb ?_)
    all_goals conv => whnf
    all_goals rfl
  · rw [if_neg hm]
    rw [(mchk_08 m).resolve_left hm] at Hc
    refine fn_ok (by kernel_rfl) ty_ok Tryd.func11 rfl (fun _ _ => Tryd.call11 _ _) rfl ?_
    intro hw
    clear hw
    repeat' ((conv => whnf); first | (with_reducible first | refine br_t ?_ | refine br_f ?_ | refine za ?_ | refine zg ?_) | refine zsl ?_ | refine zsg ?_ | refine zss ?_ | refine zs1 ?_ | refine zse ?_ | refine zsn ?_ | refine zsc ?_ | (with_reducible first | refine zpa ?_ | refine zqa ?_) | refine zp ?_ | refine zq ?_ | (with_reducible first | refine bc (fun h => ?_) (fun h => ?_) | refine zt ?_ | refine zf ?_ | refine br_i (fun h => ?_) (fun h => ?_)) | refine zg ?_ | refine zi ?_ | refine zb ?_)
    all_goals conv => whnf
    all_goals rfl
end Go.Proofs.YtgdpogdgpfjnoaaDoor

namespace Go.Proofs.YtgdpogdgpfjnoaaDoor
open Go Go.RowKit Go.Sort Sx
open Go.Lib hiding intOf
end Go.Proofs.YtgdpogdgpfjnoaaDoor

namespace Go.Proofs.YtgdpogdgpfjnoaaDoor
open Go Go.RowKit Go.Sort Sx
open Go.Lib hiding intOf
end Go.Proofs.YtgdpogdgpfjnoaaDoor

namespace Go.Proofs.YtgdpogdgpfjnoaaDoor
open Go Go.RowKit Go.Sort Sx
open Go.Lib hiding intOf
theorem rdPt_3 {wh : Str → Int × Bool} : ∀ l : List Str, rdPt wh l = (rd3 wh l).map fun p => ⟨p.1, p.2.1, p.2.2⟩
  | [] => rfl
  | [_] => rfl
  | [_, _] => rfl
  | [a, b, c] => by
    show (if _ then some _ else none) = Option.map _ (if _ then some _ else none)
    split <;> rfl
  | _ :: _ :: _ :: _ :: _ => rfl
end Go.Proofs.YtgdpogdgpfjnoaaDoor

namespace Go.Proofs.YtgdpogdgpfjnoaaDoor
open Go Go.RowKit Go.Sort Sx
open Go.Lib hiding intOf
theorem rdPtR_3 (w : List Str) : rdPtR w = (rd3R w).map fun p => ⟨p.1, p.2.1, p.2.2⟩ := by
  unfold rdPtR rd3R
  rw [rdPt_3]
  cases rd3 wholeR w with
  | none => rfl
  | some p =>
    show (if _ then some _ else none) = Option.map _ (if _ then some _ else none)
    by_cases h : 0 ≤ p.1 ∧ p.1 ≤ 65535
    · rw [if_pos h, if_pos h]; rfl
    · rw [if_neg h, if_neg h]; rfl
end Go.Proofs.YtgdpogdgpfjnoaaDoor
