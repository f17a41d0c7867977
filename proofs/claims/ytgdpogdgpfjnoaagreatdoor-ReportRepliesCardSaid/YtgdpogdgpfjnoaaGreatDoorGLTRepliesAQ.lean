import Derived.Test.YtgdpogdgpfjnoaaGreatDoorGLTRepliesAP
import Derived.Test.YtgdpogdgpfjnoaaGreatDoorGLTRepliesAN
import Derived.Test.YtgdpogdgpfjnoaaGreatDoorGLTRepliesAO
import Derived.Lib.AtoiTie
import Derived.Lib.AtoiAllCases
import Derived.Lib.ParseIntBTie
import Derived.Lib.AtoiErrMem
set_option linter.all false
namespace Go.Proofs.YtgdpogdgpfjnoaaGreatDoor
open Go Go.RowKit Go.Sort Sx
open Go.Lib hiding intOf
theorem wrd_take {ps : List Pp} {word : Str} {i : Nat} (h : i < ps.length) : (word :: ps.map Pp.s).take (i + 2) = (word :: ps.map Pp.s).take (i + 1) ++ [ps[i].s] := by
  rw [List.take_succ_eq_append_getElem (by simp; omega)]
  simp
set_option maxRecDepth 100000 in
set_option maxHeartbeats 4000000 in
theorem joined_any (word : Str) (ps : List Pp) (hw : word.length ≤ 100) (hl : ps.length ≤ 9000) (hok : ∀ p ∈ ps, p.ok) (w : World) (hg : Gd w) (sl : Value) (hsl : Rep w (fun _ => False) (.list 1 (ps.map fun p => [.v p.v])) sl) :
    Calls Tryz.prog 42 #[bstr word, sl] w fun e w' => e = .returned (bstr (joinS (word :: ps.map Pp.s))) ∧ Below w.heap.size w w' := by
  obtain ⟨a, c, rfl, hc⟩ := rep_anys hsl
  obtain ⟨te, he, hsz, _, _, ti, tz, hi0, hsz0, hz0, hzs, _, hby⟩ := (ty_ok 63 (.sl 1 false [.v (.string ⟨#[]⟩)]) rfl).2.2.2
  have hee : te = 9 := by
    have := he.symm.trans Tryz.underlying63
    injection this with this; injection this
  subst hee
  go_enter Tryz.func42, Tryz.ntmps42
  go_wp2
  have cM : ∀ (W : World) (x : Str) (j : Nat) (u : Value), ([bstr x] : List Value)[j]? = some u → (W.alloc (.cells #[bstr x] 9)).cell? ((⟨W.heap.size, 0, none⟩ : Addr).add j) = some u := fun W x j u hj => by
    have hn := World.alloc_heap_new W (.cells #[bstr x] 9)
    rw [Sx.add_plain, Nat.zero_add]
    simp only [World.cell?, hn]
    simpa using hj
  have o1 : ∀ x : Str, ∀ u ∈ ([bstr x] : List Value), u.oneCell' = true := by simp [Value.oneCell']
  have hall : (word :: ps.map Pp.s).length = ps.length + 1 := by simp
  go_loopw [5, 15] (fun v i wr => ∃ k : Nat, k ≤ ps.length ∧ i = .int .i64 k ∧ wr.ownsRow w.heap.size 9 1 v (k + 1) (((word :: ps.map Pp.s).take (k + 1)).map bstr) ∧ Below w.heap.size w wr) (fun _ i _ => ps.length - (intOf i).toNat)
  case atStart =>
    refine ⟨0, Nat.zero_le _, rfl, ?_, (Below.refl _ w).alloc (Nat.le_refl _) _⟩
    refine ⟨by simp, .inr ⟨w.heap.size, 1, #[bstr word], rfl, Nat.le_refl _, World.alloc_heap_new w _, Nat.le_refl _, by decide, by simp, by simp⟩⟩
  case round =>
    obtain ⟨k, hk, rfl, hrow, hB⟩ := hrel
    obtain ⟨wo, hwo⟩ : ∃ wo, wo = wr := ⟨_, rfl⟩
    subst hwo
    have hgW : Gd wo := gd_below hB hg
    rcases Nat.lt_or_ge k ps.length with hlt | hge
    · obtain ⟨b, off, ha, hb, hcell⟩ := hc k hlt
      subst ha
      have hcW : wo.cell? ⟨b, off + k, none⟩ = some ps[k].v := (World.cell?_of_block (hB.block b hb)).trans hcell
      have hpo := hok _ (List.getElem_mem hlt)
      have htk := wrd_take (word := word) hlt
      have q1 : (k + 1) + 1 ≤ maxLen := by unfold maxLen; omega
      have q2 : ((k + 1) + 1) * ti.bytes ≤ 140737488355328 := by
        have : ((k + 1) + 1) * ti.bytes ≤ 10001 * 65536 := Nat.mul_le_mul (by omega) hby
        omega
      clear hc
      generalize ps[k] = p at *
      cases p with
      | i n =>
        have hn : in64 n := hpo
        have hI := (fn_call (vs := [.int .i64 n]) (fun _ _ => Tryz.call83 _ _) rfl (ito_fn (n := n)) hgW ⟨.v _ rfl hn, trivial⟩)
        have hcW' : wo.cell? ⟨b, off + k, none⟩ = some (.iface 3 (.int .i64 n)) := hcW
        have t1 := fun w => ta_yes Tryz.underlying3 (fun _ h => by cases h) (.int .i64 n) 20 w
        clear hcW hcell
        go_wp2_with (first
          | (go_at_call 83; (with_reducible refine Calls.mono hI ?_); rintro e W1 ⟨rfl, B1⟩; have B2 : Below w.heap.size w W1 := hB.trans (B1.mono hB.size); have hrow2 := owns_below hrow B1; have sB := B2.size)
          | (at_builtin; refine wpList_append_own _ rfl _ _ 63 rfl w.heap.size 9 ti tz 1 ti.bytes Tryz.underlying63 hi0 hz0 hsz0 rfl hzs (by decide) _ _ _ rfl (hrow2.alloc _) ⟨W1.heap.size, 0, none⟩ 1 1 [bstr (itoa n)] rfl rfl (cM W1 _) (o1 _) q1 q2 (by rw [World.size_alloc]; omega) ?_; intro v' W5 hown' hg3 hnil3))
        go_roundw
        case rel =>
          refine ⟨k + 1, hlt, by go_num, ?_, ?_⟩
          · rw [htk, List.map_append]; exact hown'
          · exact (below_row (B2.alloc B2.size _) (by rw [World.size_alloc]; omega) hg3 fun r e => own_base hrow2 e)
        case measure => simp [intOf]; omega
      | l n =>
        have hn : in64 n := hpo
        have hI := (fn_call (vs := [.int .i64 n, .int .i64 10]) (fun _ _ => Tryz.call82 _ _) rfl (fmt_fn (n := n)) hgW ⟨.v _ rfl hn, .v _ rfl ⟨by decide, by decide⟩, trivial⟩)
        have hcW' : wo.cell? ⟨b, off + k, none⟩ = some (.iface 2 (.int .i64 n)) := hcW
        have t1 := fun w => ta_no Tryz.underlying3 (fun _ h => by cases h) Tryz.zeroValue3 (show (2 : TypeId) ≠ 3 by decide) (.int .i64 n) 20 w
        have t2 := fun w => ta_yes Tryz.underlying2 (fun _ h => by cases h) (.int .i64 n) 20 w
        clear hcW hcell
        go_wp2_with (first
          | (go_at_call 82; (with_reducible refine Calls.mono hI ?_); rintro e W1 ⟨rfl, B1⟩; have B2 : Below w.heap.size w W1 := hB.trans (B1.mono hB.size); have hrow2 := owns_below hrow B1; have sB := B2.size)
          | (at_builtin; refine wpList_append_own _ rfl _ _ 63 rfl w.heap.size 9 ti tz 1 ti.bytes Tryz.underlying63 hi0 hz0 hsz0 rfl hzs (by decide) _ _ _ rfl (hrow2.alloc _) ⟨W1.heap.size, 0, none⟩ 1 1 [bstr (itoa n)] rfl rfl (cM W1 _) (o1 _) q1 q2 (by rw [World.size_alloc]; omega) ?_; intro v' W5 hown' hg3 hnil3))
        go_roundw
        case rel =>
          refine ⟨k + 1, hlt, by go_num, ?_, ?_⟩
          · rw [htk, List.map_append]; exact hown'
          · exact (below_row (B2.alloc B2.size _) (by rw [World.size_alloc]; omega) hg3 fun r e => own_base hrow2 e)
        case measure => simp [intOf]; omega
      | r n d =>
        have hn : in64 n ∧ in64 d := hpo
        obtain ⟨wa, hwa⟩ : ∃ wa, wa = wo.alloc (.cells #[.int .i64 n, .int .i64 d] 25) := ⟨_, rfl⟩
        have Ba : Below wo.heap.size wo wa := by rw [hwa]; exact (Below.refl _ _).alloc (Nat.le_refl _) _
        have hI := (fn_call (vs := [.agg #[.int .i64 n, .int .i64 d]]) (fun _ _ => Tryz.call84 _ _) rfl (tfraction_fn n d) (gd_below Ba hgW) ⟨⟨[.int .i64 n, .int .i64 d], rfl, .v _ rfl hn.1, .v _ rfl hn.2, trivial⟩, trivial⟩)
        obtain ⟨x, hx⟩ : ∃ x, x = (numV n d).1 := ⟨_, rfl⟩
        rw [← hx, hwa] at hI
        have hrowa := owns_below hrow Ba
        rw [hwa] at hrowa Ba
        clear hwa
        have hcW' : wo.cell? ⟨b, off + k, none⟩ = some (.iface 25 (.agg #[.int .i64 n, .int .i64 d])) := hcW
        have t1 := fun w => ta_no Tryz.underlying3 (fun _ h => by cases h) Tryz.zeroValue3 (show (25 : TypeId) ≠ 3 by decide) (.agg #[.int .i64 n, .int .i64 d]) 20 w
        have t2 := fun w => ta_no Tryz.underlying2 (fun _ h => by cases h) Tryz.zeroValue2 (show (25 : TypeId) ≠ 2 by decide) (.agg #[.int .i64 n, .int .i64 d]) 20 w
        have t3 := fun w => ta_yes Tryz.underlying25 (fun _ h => by cases h) (.agg #[.int .i64 n, .int .i64 d]) 20 w
        replace htk : (word :: ps.map Pp.s).take (k + 2) = (word :: ps.map Pp.s).take (k + 1) ++ [x] := by rw [hx]; exact htk
        clear hcW hcell hx
        go_wp2_with (first
          | (go_at_call 84; (with_reducible refine Calls.mono hI ?_); rintro e W1 ⟨rfl, B1'⟩; have B1 := Ba.trans (B1'.mono Ba.size); have B2 : Below w.heap.size w W1 := hB.trans (B1.mono hB.size); have hrow2 := owns_below hrowa B1'; have sB := B2.size)
          | (at_builtin; refine wpList_append_own _ rfl _ _ 63 rfl w.heap.size 9 ti tz 1 ti.bytes Tryz.underlying63 hi0 hz0 hsz0 rfl hzs (by decide) _ _ _ rfl (hrow2.alloc _) ⟨W1.heap.size, 0, none⟩ 1 1 [bstr x] rfl rfl (cM W1 _) (o1 _) q1 q2 (by rw [World.size_alloc]; omega) ?_; intro v' W5 hown' hg3 hnil3))
        go_roundw
        case rel =>
          refine ⟨k + 1, hlt, by go_num, ?_, ?_⟩
          · rw [htk, List.map_append]; exact hown'
          · exact (below_row (B2.alloc B2.size _) (by rw [World.size_alloc]; omega) hg3 fun r e => own_base hrow2 e)
        case measure => simp [intOf]; omega
    · obtain rfl : k = ps.length := by omega
      rw [← hall, List.take_length] at hrow
      have hv := rep_ownStr (M := fun _ => False) (l := word :: ps.map Pp.s) hrow (fun _ h => h.elim)
      have hjl := join_len 32 (word :: ps.map Pp.s) fun x hx => by
        rcases List.mem_cons.1 hx with rfl | hx
        · exact hw
        · obtain ⟨p, hp, rfl⟩ := List.mem_map.1 hx
          exact Nat.le_trans (Pp.s_le (hok p hp)) (by decide)
      have hJ := (fn_call (vs := [u5, .string ⟨#[32]⟩]) (fun _ _ => Tryz.call55 _ _) rfl (join_fn (l := word :: ps.map Pp.s) (c := 32) (by rw [hall]; omega) (by rw [hall] at hjl; omega)) hgW ⟨hv, .v _ rfl trivial, trivial⟩)
      rw [← joinS_C] at hJ
      go_wp2_with (go_at_call 55; (with_reducible refine Calls.mono hJ ?_); rintro e W1 ⟨rfl, B1⟩)
      go_ret
      exact ⟨rfl, hB.trans (B1.mono hB.size)⟩
end Go.Proofs.YtgdpogdgpfjnoaaGreatDoor

namespace Go.Proofs.YtgdpogdgpfjnoaaGreatDoor
open Go Go.RowKit Go.Sort Sx
end Go.Proofs.YtgdpogdgpfjnoaaGreatDoor

namespace Go.Proofs.YtgdpogdgpfjnoaaGreatDoor
open Go Go.RowKit Go.Sort Sx
def nmd (i : Int) : Bool := decide (0 ≤ i) && decide (i ≤ 65535)
def mOk (m : Mt) : Bool := decide (chk m.n m.d = 0) && (decide (0 ≤ m.i) && (decide (m.i < m.j) && decide (m.j ≤ 65535)))
def mRun : Option Mt → List Mt → Bool
  | _, [] => true
  | none, m :: r => mOk m && mRun (some m) r
  | some p, m :: r => mOk m && decide (cfM p m < 0) && mRun (some m) r
def mtR (l : List Mt) : Bool := mRun none l && decide (l.length ≤ 2016)
def rchk (r : Rp) : Int :=
  if r.e ≠ 0 then (if 1 ≤ r.e ∧ r.e ≤ 99 ∧ r = rpE r.e then 0 else 8)
  else if r.ms ≠ [] then (if mtR r.ms = true ∧ r = ⟨0, 0, 0, 0, 0, r.ms⟩ then 0 else 8)
  else if r.d ≠ 0 then (if chk r.n r.d = 0 ∧ nmd r.i = true ∧ (r.j = 0 ∨ r.i < r.j ∧ nmd r.j = true ∧ 0 ≤ r.n) then 0 else 8)
  else (if r = rp0 then 0 else 8)
theorem rchk_08 (r : Rp) : rchk r = 0 ∨ rchk r = 8 := by
  unfold rchk
  repeat' split
  all_goals first | exact .inl rfl | exact .inr rfl
def prev (l : List Mt) (i : Nat) : Option Mt := if i = 0 then none else l[i - 1]?
theorem mRun_drop {l : List Mt} {i : Nat} (h : i < l.length) : mRun (prev l i) (l.drop i) = (mOk l[i] && (decide (i = 0) || (match l[i - 1]? with | some p => decide (cfM p l[i] < 0) | none => true)) && mRun (prev l (i + 1)) (l.drop (i + 1))) := by
  have e1 : l.drop i = l[i] :: l.drop (i + 1) := List.drop_eq_getElem_cons h
  have e2 : prev l (i + 1) = some l[i] := by unfold prev; rw [if_neg (by omega), Nat.add_sub_cancel, List.getElem?_eq_getElem h]
  rw [e1, e2]
  unfold prev
  by_cases h0 : i = 0
  · subst h0
    simp [mRun]
  · rw [if_neg h0, List.getElem?_eq_getElem (show i - 1 < l.length by omega), mRun]
    simp [h0]
theorem tnamed_fn (i : Int) : FnOK Tryz.prog 45 [.one (i64 i)] (.c (.one (bol (nmd i)))) := by
  unfold nmd
  refine fn_ok (by kernel_rfl) ty_ok Tryz.func45 rfl (fun _ _ => Tryz.call45 _ _) rfl ?_
  intro hw
  clear hw
  repeat' ((conv => whnf); first | (with_reducible first | refine br_t ?_ | refine br_f ?_ | refine za ?_ | refine zg ?_) | refine zp ?_ | refine zq ?_ | (with_reducible first | refine bc (fun h => ?_) (fun h => ?_) | refine zt ?_ | refine zf ?_ | refine br_i (fun h => ?_) (fun h => ?_)) | refine zg ?_ | refine zi ?_ | refine zb ?_)
  all_goals conv => whnf
  all_goals first | rfl | exact r_bool (by simp; omega)
theorem tbefore_fn {a b : Mt} (h1 : chk a.n a.d = 0) (h2 : chk b.n b.d = 0) : FnOK Tryz.prog 85 [a.dc, b.dc] (ret1 (cfM a b)) := by
  have H := (cmp_fnd a.n a.d b.n b.d).ok
  unfold cmpV bth at H
  rw [if_pos (by rw [h1, if_pos rfl, h2])] at H
  simp only [ret2] at H
  have H2 := (cmpint_fnd a.i b.i).ok
  have H3 := (cmpint_fnd a.j b.j).ok
  unfold cfM
  have H4 := (cmporL_fnd [cmpN (a.n * b.d) (b.n * a.d), cmpN a.i b.i, cmpN a.j b.j] (by simp)).ok
  generalize orL [cmpN (a.n * b.d) (b.n * a.d), cmpN a.i b.i, cmpN a.j b.j] = z at *
  generalize cmpN (a.n * b.d) (b.n * a.d) = x at *
  generalize cmpN a.i b.i = y at *
  generalize cmpN a.j b.j = u at *
  change FnOK _ _ [.one (.list 1 [[i64 x], [i64 y], [i64 u]])] _ at H4
  refine fn_ok (by kernel_rfl) ty_ok Tryz.func85 rfl (fun _ _ => Tryz.call85 _ _) rfl ?_
  intro hw
  clear hw
  exact zw
end Go.Proofs.YtgdpogdgpfjnoaaGreatDoor

namespace Go.Proofs.YtgdpogdgpfjnoaaGreatDoor
open Go.RowKit Go.Sort Sx Go.Lib
theorem dec_len_le {u k : Nat} (hk : 1 ≤ k) (h : u < 10 ^ k) : (decDigits u).length ≤ k := by
  rw [decDigits_length]
  have : ∀ (j u : Nat), u < 10 ^ (j + 1) → nDigits u ≤ j + 1 := by
    intro j
    induction j with
    | zero => intro u hu; rw [nDigits_small (by simpa using hu)]; exact Nat.le_refl _
    | succ j ih2 =>
      intro u hu
      by_cases h10 : u < 10
      · rw [nDigits_small h10]; omega
      · rw [nDigits_big h10]
        have := ih2 (u / 10) (by rw [Nat.pow_succ] at hu; omega)
        omega
  obtain ⟨j, rfl⟩ : ∃ j, k = j + 1 := ⟨k - 1, by omega⟩
  exact this j u h
theorem itoa_len_le {n : Int} {k : Nat} (hk : 1 ≤ k) (h : n.natAbs < 10 ^ k) : (itoa n).length ≤ k + 1 := by
  unfold itoa
  split
  · rw [List.length_cons]; have := dec_len_le hk h; omega
  · have := dec_len_le (u := n.toNat) hk (Nat.lt_of_le_of_lt (by omega) h)
    omega
end Go.Proofs.YtgdpogdgpfjnoaaGreatDoor

namespace Go.Proofs.YtgdpogdgpfjnoaaGreatDoor
open Go.RowKit Go.Sort Sx Go.Lib
def wErr : Str := [101, 114, 114, 111, 114]
def wMeet : Str := [109, 101, 101, 116, 105, 110, 103, 115]
def wDone : Str := [100, 111, 110, 101]
def wLeader : Str := [108, 101, 97, 100, 101, 114]
def wPair : Str := [112, 97, 105, 114]
def mWords (m : Mt) : List Str := [(numV m.n m.d).1, itoa m.i, itoa m.j]
def rWords (r : Rp) : List Str :=
  if r.e ≠ 0 then [wErr, itoa r.e]
  else if r.ms ≠ [] then wMeet :: r.ms.flatMap mWords
  else if r.d = 0 then [wDone]
  else if r.j = 0 then [wLeader, itoa r.i, (numV r.n r.d).1]
  else [wPair, itoa r.i, itoa r.j, (numV r.n r.d).1]
def rText (r : Rp) : Str := joinS (rWords r)
def replyV (r : Rp) : Str × Int := if rchk r = 0 then (rText r, 0) else ([], 8)
def atoV (s : Str) : Option Int := match atoiAll s with | .ok v => some v | _ => none
def frV (s : Str) : Option (Int × Int) := if (readV s).2 = 0 then some (readV s).1 else none
def rdMs : List Str → Option (List Mt)
  | [] => some []
  | a :: b :: c :: r => match frV a, atoV b, atoV c with
    | some q, some i, some j => (rdMs r).map fun l => ⟨q.1, q.2, i, j⟩ :: l
    | _, _, _ => none
  | _ => none
def rdWP (w0 : Str) (t : List Str) : Option Rp :=
  if w0 = wDone then some rp0
  else if w0 = wErr then (match t with | [a] => (atoV a).map fun n => rpE n | _ => none)
  else if w0 = wLeader then (match t with | [a, b] => (match atoV a, frV b with | some i, some q => some ⟨0, i, 0, q.1, q.2, []⟩ | _, _ => none) | _ => none)
  else if w0 = wPair then (match t with | [a, b, c] => (match atoV a, atoV b, frV c with | some i, some j, some q => some ⟨0, i, j, q.1, q.2, []⟩ | _, _, _ => none) | _ => none)
  else if w0 = wMeet then (rdMs t).map fun l => ⟨0, 0, 0, 0, 0, l⟩
  else none
def smV (s : Str) (hi : Int) : Int × Bool := ((wholeR s).1, (wholeR s).2 && (decide (0 ≤ (wholeR s).1) && decide ((wholeR s).1 ≤ hi)))
def metV (a b c : Str) : Mt × Bool := (⟨(readR a).1.1, (readR a).1.2, (smV b 65535).1, (smV c 65535).1⟩, decide ((readR a).2 = 0) && ((smV b 65535).2 && (smV c 65535).2))
def rdMr : List Str → Option (List Mt)
  | [] => some []
  | a :: b :: c :: r => if (metV a b c).2 = true then (rdMr r).map fun l => (metV a b c).1 :: l else none
  | _ => none
def rdWR (w0 : Str) (t : List Str) : Option Rp :=
  if w0 = wDone ∧ t.length = 0 then some rp0
  else if w0 = wErr ∧ t.length = 1 then (if (smV (t.getD 0 []) 99).2 = true then some (rpE (smV (t.getD 0 []) 99).1) else none)
  else if w0 = wLeader ∧ t.length = 2 then (if (smV (t.getD 0 []) 65535).2 = true ∧ (readR (t.getD 1 [])).2 = 0 then some ⟨0, (smV (t.getD 0 []) 65535).1, 0, (readR (t.getD 1 [])).1.1, (readR (t.getD 1 [])).1.2, []⟩ else none)
  else if w0 = wPair ∧ t.length = 3 then (if (smV (t.getD 0 []) 65535).2 = true ∧ (smV (t.getD 1 []) 65535).2 = true ∧ (readR (t.getD 2 [])).2 = 0 then some ⟨0, (smV (t.getD 0 []) 65535).1, (smV (t.getD 1 []) 65535).1, (readR (t.getD 2 [])).1.1, (readR (t.getD 2 [])).1.2, []⟩ else none)
  else if w0 = wMeet ∧ (t.length + 1) % 3 = 1 then (rdMr t).map fun l => ⟨0, 0, 0, 0, 0, l⟩
  else none
def backR (s : Str) (r : Option Rp) : Rp × Int := match r with | some r => if rchk r = 0 ∧ rText r = s then (r, 0) else (rp0, 12) | none => (rp0, 12)
def rrdP (s : Str) : Rp × Int := backR s (rdWP ((spl 32 s).headD []) (spl 32 s).tail)
def rrdR (s : Str) : Rp × Int := backR s (rdWR ((spl 32 s).headD []) (spl 32 s).tail)
def rreadP (s : Str) : Rp × Int := if 110000 < s.length then (rp0, 4) else rrdP s
def rreadR (s : Str) : Rp × Int := if 110000 < s.length then (rp0, 4) else rrdR s
theorem backR_ok {s : Str} {m : Option Rp} (h : (backR s m).2 = 0) : rchk (backR s m).1 = 0 ∧ rText (backR s m).1 = s := by
  unfold backR at h ⊢
  cases m with
  | none => cases h
  | some m =>
    dsimp only at h ⊢
    split at h
    · rename_i c; rw [if_pos c]; exact c
    · cases h
theorem backR_no {s : Str} {m : Option Rp} (h : (backR s m).2 ≠ 0) : backR s m = (rp0, 12) := by
  unfold backR at h ⊢
  cases m with
  | none => rfl
  | some m =>
    dsimp only at h ⊢
    split at h
    · exact absurd rfl h
    · rename_i c; rw [if_neg c]
theorem backR_of {s : Str} {m : Rp} (h : rchk m = 0) (e : rText m = s) : backR s (some m) = (m, 0) := by
  unfold backR; dsimp only; rw [if_pos ⟨h, e⟩]
theorem spl_join : ∀ {l : List Str}, l ≠ [] → (∀ x ∈ l, (32 : UInt8) ∉ x) → spl 32 (joinS l) = l
  | [], h, _ => absurd rfl h
  | [a], _, h => by
    show spl 32 a = [a]
    exact spl_no (h a (by simp))
  | a :: b :: l, _, h => by
    show spl 32 (a ++ 32 :: joinS (b :: l)) = _
    rw [spl_at _ (h a (by simp)), spl_join (l := b :: l) (by simp) fun x hx => h x (List.mem_cons_of_mem _ hx)]
theorem num_no32 (n d : Int) : (32 : UInt8) ∉ (numV n d).1 := by
  unfold numV
  split
  · exact wrt_no32 n d
  · simp
theorem rWords_ne (r : Rp) : rWords r ≠ [] := by
  unfold rWords
  repeat' split
  all_goals simp
theorem rWords_no (r : Rp) : ∀ x ∈ rWords r, (32 : UInt8) ∉ x := by
  intro x hx
  have w1 : (32 : UInt8) ∉ wErr := by decide
  have w2 : (32 : UInt8) ∉ wMeet := by decide
  have w3 : (32 : UInt8) ∉ wDone := by decide
  have w4 : (32 : UInt8) ∉ wLeader := by decide
  have w5 : (32 : UInt8) ∉ wPair := by decide
  unfold rWords at hx
  split at hx
  · rcases List.mem_cons.1 hx with rfl | hx
    · exact w1
    · obtain rfl := List.mem_singleton.1 hx; exact itoa_no32 _
  split at hx
  · rcases List.mem_cons.1 hx with rfl | hx
    · exact w2
    · obtain ⟨m, _, hm⟩ := List.mem_flatMap.1 hx
      unfold mWords at hm
      simp only [List.mem_cons, List.not_mem_nil, or_false] at hm
      rcases hm with rfl | rfl | rfl
      · exact num_no32 _ _
      · exact itoa_no32 _
      · exact itoa_no32 _
  split at hx
  · obtain rfl := List.mem_singleton.1 hx; exact w3
  split at hx
  · simp only [List.mem_cons, List.not_mem_nil, or_false] at hx
    rcases hx with rfl | rfl | rfl
    · exact w4
    · exact itoa_no32 _
    · exact num_no32 _ _
  · simp only [List.mem_cons, List.not_mem_nil, or_false] at hx
    rcases hx with rfl | rfl | rfl | rfl
    · exact w5
    · exact itoa_no32 _
    · exact itoa_no32 _
    · exact num_no32 _ _
theorem spl_text (r : Rp) : spl 32 (rText r) = rWords r := spl_join (rWords_ne r) (rWords_no r)
theorem dec_ne2 (u : Nat) : ∃ b r, decDigits u = b :: r ∧ b ≠ 45 ∧ b ≠ 43 := by
  have hd := decFrom_dec u
  cases h : decDigits u with
  | nil =>
    have := decDigits_length u
    rw [h] at this
    have h2 : 0 < nDigits u := by
      by_cases h10 : u < 10
      · rw [nDigits_small h10]; omega
      · rw [nDigits_big (by omega)]; omega
    simp at this
    omega
  | cons b r =>
    rw [h, decFrom] at hd
    refine ⟨b, r, rfl, ?_, ?_⟩
    · rintro rfl; cases hd
    · rintro rfl; cases hd
theorem decNat_dec (u : Nat) : decNat (decDigits u) = some u := by
  obtain ⟨b, r, h, _⟩ := dec_ne2 u
  unfold decNat
  rw [if_neg (by rw [h]; simp), decFrom_dec]
theorem atoi_itoa (n : Int) : atoi (itoa n) = some n := by
  unfold itoa
  split
  · rename_i h
    unfold atoi
    simp only [beq_self_eq_true, if_true]
    rw [decNat_dec]
    simp
    omega
  · rename_i h
    obtain ⟨b, r, hb, h1, h2⟩ := dec_ne2 n.toNat
    have e := decNat_dec n.toNat
    rw [hb] at e ⊢
    unfold atoi
    simp only [beq_iff_eq, h1, h2, if_false]
    rw [e]
    simp
    omega
theorem atoV_itoa {n : Int} (h : n.natAbs < 10 ^ 17) : atoV (itoa n) = some n := by
  have hl := itoa_len_le (n := n) (k := 17) (by decide) h
  unfold atoV
  rw [atoiAll_short _ (by omega), atoi_itoa]
  rfl
theorem atoV_id {n : Int} (h0 : 0 ≤ n) (h1 : n ≤ 65535) : atoV (itoa n) = some n := atoV_itoa (by rw [show (10 : Nat) ^ 17 = 100000000000000000 by decide]; omega)
end Go.Proofs.YtgdpogdgpfjnoaaGreatDoor

namespace Go.Proofs.YtgdpogdgpfjnoaaGreatDoor
open Go Go.RowKit Go.Sort Sx
theorem cfM_lt {a b : Mt} (h1 : chk a.n a.d = 0) (h2 : chk b.n b.d = 0) : decide (cfM a b < 0) = decide (mlt a b) := by
  have q1 := qv_ltM h1 h2
  have q2 := qv_ltM h2 h1
  rw [decide_eq_decide]
  unfold cfM orL orL orL orL mlt cmpN
  generalize qv a.n a.d = x at *
  generalize qv b.n b.d = y at *
  generalize a.n * b.d = u at *
  generalize b.n * a.d = v at *
  have tri : (u < v ∧ x < y) ∨ (v < u ∧ y < x) ∨ (u = v ∧ x = y) := by
    rcases Int.lt_trichotomy u v with h | h | h
    · exact .inl ⟨h, q1.2 h⟩
    · refine .inr (.inr ⟨h, ?_⟩)
      have k1 : ¬ x < y := fun k => by have := q1.1 k; omega
      have k2 : ¬ y < x := fun k => by have := q2.1 k; omega
      exact Rat.le_antisymm (Rat.not_lt.1 k2) (Rat.not_lt.1 k1)
    · exact .inr (.inl ⟨h, q2.2 h⟩)
  rcases tri with ⟨h, k⟩ | ⟨h, k⟩ | ⟨h, k⟩
  · simp [h, k]
  · have k1 : ¬ x < y := fun e => by have := q1.1 e; omega
    have k2 : x ≠ y := fun e => by rw [e] at k; exact absurd k Rat.lt_irrefl
    have k3 : ¬ u < v := by omega
    simp [h, k1, k2, k3]
  · subst h k
    simp [Rat.lt_irrefl]
    (repeat' split) <;> omega
theorem mOk_i {m : Mt} : mOk m = true ↔ chk m.n m.d = 0 ∧ 0 ≤ m.i ∧ m.i < m.j ∧ m.j ≤ 65535 := by
  unfold mOk
  simp only [Bool.and_eq_true, decide_eq_true_eq]
theorem mRun_at {l : List Mt} {i : Nat} (h : i < l.length) : (mRun (prev l i) (l.drop i) = false ∧ mOk l[i] = false) ∨
    (mOk l[i] = true ∧ mRun (prev l i) (l.drop i) = false ∧ ∃ h0 : 0 < i, ¬ cfM (l[i - 1]'(by omega)) l[i] < 0) ∨ (mOk l[i] = true ∧ mRun (prev l i) (l.drop i) = mRun (prev l (i + 1)) (l.drop (i + 1)) ∧ (∀ h0 : 0 < i, cfM (l[i - 1]'(by omega)) l[i] < 0)) := by
  rw [mRun_drop h]
  by_cases h1 : mOk l[i] = true
  · rcases Nat.eq_zero_or_pos i with h0 | h0
    · refine .inr (.inr ⟨h1, ?_, fun h => by omega⟩)
      rw [h1]
      simp [h0]
    · rw [List.getElem?_eq_getElem (show i - 1 < l.length by omega)]
      have e0 : decide (i = 0) = false := decide_eq_false (by omega)
      by_cases h2 : cfM (l[i - 1]'(by omega)) l[i] < 0
      · refine .inr (.inr ⟨h1, ?_, fun _ => h2⟩)
        rw [h1, e0]
        simp [h2]
      · refine .inr (.inl ⟨h1, ?_, h0, h2⟩)
        rw [h1, e0]
        simp [h2]
  · refine .inl ⟨?_, by simpa using h1⟩
    rw [show mOk l[i] = false by simpa using h1]
    rfl
set_option maxRecDepth 100000 in
set_option maxHeartbeats 4000000 in
theorem tmeetings_fn (l : List Mt) (hl0 : l.length ≤ 1000000) : FnOK Tryz.prog 43 [.one (mts l)] (.c (.one (bol (mtR l)))) := by
  have hll : (l.map Mt.c).length = l.length := List.length_map ..
  unfold mtR
  rw [show mRun none l = mRun (prev l 0) (l.drop 0) from rfl]
  obtain ⟨V, hV⟩ : ∃ V, V = mRun (prev l 0) (l.drop 0) := ⟨_, rfl⟩
  rw [← hV]
  refine fn_ok (by kernel_rfl) ty_ok Tryz.func43 rfl (fun _ _ => Tryz.call43 _ _) rfl ?_
  intro hw
  clear hw
  repeat' ((conv => whnf); first | (with_reducible first | refine br_t ?_ | refine br_f ?_ | refine za ?_ | refine zg ?_) | refine zp ?_ | refine zq ?_ | (with_reducible first | refine bc (fun h => ?_) (fun h => ?_) | refine zt ?_ | refine zf ?_ | refine br_i (fun h => ?_) (fun h => ?_)) | refine zg ?_ | refine zi ?_ | refine zb ?_)
  refine loop_J (by kernel_rfl) ty_ok (σ := Nat) (fun i => [(7, sV (.int .i64 (i : Nat)))]) (fun _ => []) (fun i => i ≤ l.length ∧ V = mRun (prev l i) (l.drop i) ∧ (0 < i → ∀ h : i - 1 < l.length, mOk l[i - 1] = true)) (fun i => l.length - i) 0 ⟨Nat.zero_le _, hV, fun h => absurd h (Nat.lt_irrefl _)⟩ ?_ ?_
  · (conv => whnf); exact zent
  rintro i ⟨hi, hI, hP⟩
  rcases Nat.lt_or_ge i l.length with hlt | hge
  · have hel := mts_get hlt
    have ew : IntKind.i64.wrap ((i : Int) + 1) = ((i + 1 : Nat) : Int) := by rw [IntWalk.i64_in _ (by omega)]; omega
    have Hc := check_fn l[i].n l[i].d
    have Hn := tnamed_fn l[i].j
    have nj : l[i].j ≤ 65535 → 0 ≤ l[i].j → nmd l[i].j = true := fun h1 h2 => by unfold nmd; simp [h1, h2]
    have nk : ¬ l[i].j ≤ 65535 → nmd l[i].j = false := fun h1 => by unfold nmd; simp [h1]
    rcases mRun_at hlt with ⟨e1, e2⟩ | ⟨e1, e2, h0, e3⟩ | ⟨e1, e2, e3⟩
    · rw [e1] at hI
      subst hI
      have hb : ¬ (chk l[i].n l[i].d = 0 ∧ 0 ≤ l[i].i ∧ l[i].i < l[i].j ∧ l[i].j ≤ 65535) := fun h => by rw [mOk_i.2 h] at e2; cases e2
      clear e1 e2 hP hV
      generalize l[i] = m at *
      obtain ⟨m1, m2, m3, m4⟩ := m
      simp only at hel Hc Hn nj nk hb
      generalize chk m1 m2 = z at *
      by_cases h1 : z = 0
      · subst h1
        by_cases h2 : 0 ≤ m3
        · by_cases h3 : m3 < m4
          · have h4 : ¬ m4 ≤ 65535 := fun h => hb ⟨rfl, h2, h3, h⟩
            rw [nk h4] at Hn
            exact zw
          · clear Hn
            exact zw
        · clear Hn
          exact zw
      · clear Hn
        exact zw
    · rw [e2] at hI
      subst hI
      obtain ⟨c1, c2, c3, c4⟩ := mOk_i.1 e1
      have hpk := hP h0 (by omega)
      obtain ⟨d1, d2, d3, d4⟩ := mOk_i.1 hpk
      have Hb := tbefore_fn d1 c1
      have ew2 : IntKind.i64.wrap ((i : Int) - 1) = ((i - 1 : Nat) : Int) := by rw [IntWalk.i64_in _ (by omega)]; omega
      have hel2 : (l.map Mt.c)[(IntKind.i64.wrap ((i : Int) - 1)).toNat]? = some [i64 (l[i - 1]'(by omega)).n, i64 (l[i - 1]'(by omega)).d, i64 (l[i - 1]'(by omega)).i, i64 (l[i - 1]'(by omega)).j] := by rw [ew2]; exact mts_get (by omega)
      rw [c1] at Hc
      rw [nj c4 (by omega)] at Hn
      clear e1 e2 hP hV nj nk d1 d2 d3 d4 hpk c1
      generalize cfM (l[i - 1]'(by omega)) l[i] = z at *
      generalize l[i - 1]'(by omega) = q at *
      generalize l[i] = m at *
      obtain ⟨m1, m2, m3, m4⟩ := m
      obtain ⟨q1, q2, q3, q4⟩ := q
      simp only [Mt.dc] at hel hel2 Hc Hn Hb c2 c3 c4
      exact zw
    · obtain ⟨c1, c2, c3, c4⟩ := mOk_i.1 e1
      rw [c1] at Hc
      rw [nj c4 (by omega)] at Hn
      have hN : i + 1 ≤ l.length ∧ V = mRun (prev l (i + 1)) (l.drop (i + 1)) ∧ (0 < i + 1 → ∀ h : i + 1 - 1 < l.length, mOk l[i + 1 - 1] = true) := ⟨hlt, by rw [hI, e2], fun _ h => by simpa using e1⟩
      by_cases h0 : 0 < i
      · have hpk := hP h0 (by omega)
        obtain ⟨d1, d2, d3, d4⟩ := mOk_i.1 hpk
        have Hb := tbefore_fn d1 c1
        have ez := e3 h0
        have ew2 : IntKind.i64.wrap ((i : Int) - 1) = ((i - 1 : Nat) : Int) := by rw [IntWalk.i64_in _ (by omega)]; omega
        have hel2 : (l.map Mt.c)[(IntKind.i64.wrap ((i : Int) - 1)).toNat]? = some [i64 (l[i - 1]'(by omega)).n, i64 (l[i - 1]'(by omega)).d, i64 (l[i - 1]'(by omega)).i, i64 (l[i - 1]'(by omega)).j] := by rw [ew2]; exact mts_get (by omega)
        clear e1 e2 e3 hP hV hI nj nk d1 d2 d3 d4 hpk c1
        generalize cfM (l[i - 1]'(by omega)) l[i] = z at *
        generalize l[i - 1]'(by omega) = q at *
        obtain ⟨m, hm⟩ : ∃ m, m = l[i] := ⟨_, rfl⟩
        rw [← hm] at hel Hc Hn Hb c2 c3 c4
        clear hm
        obtain ⟨m1, m2, m3, m4⟩ := m
        obtain ⟨q1, q2, q3, q4⟩ := q
        simp only [Mt.dc] at hel hel2 Hc Hn Hb c2 c3 c4
        repeat' ((conv => whnf); first | (with_reducible first | refine br_t ?_ | refine br_f ?_ | refine za ?_ | refine zg ?_) | refine zp ?_ | refine zq ?_ | (with_reducible first | refine bc (fun h => ?_) (fun h => ?_) | refine zt ?_ | refine zf ?_ | refine br_i (fun h => ?_) (fun h => ?_)) | refine zg ?_ | refine zi ?_ | refine zb ?_)
        all_goals conv => whnf
        refine ⟨i + 1, hN, ?_, by omega⟩
        rw [← ew]
        (conv => whnf); exact zent
      · clear e1 e2 e3 hP hV hI nj nk c1
        obtain ⟨m, hm⟩ : ∃ m, m = l[i] := ⟨_, rfl⟩
        rw [← hm] at hel Hc Hn c2 c3 c4
        clear hm
        obtain ⟨m1, m2, m3, m4⟩ := m
        simp only at hel Hc Hn c2 c3 c4
        repeat' ((conv => whnf); first | (with_reducible first | refine br_t ?_ | refine br_f ?_ | refine za ?_ | refine zg ?_) | refine zp ?_ | refine zq ?_ | (with_reducible first | refine bc (fun h => ?_) (fun h => ?_) | refine zt ?_ | refine zf ?_ | refine br_i (fun h => ?_) (fun h => ?_)) | refine zg ?_ | refine zi ?_ | refine zb ?_)
        all_goals conv => whnf
        refine ⟨i + 1, hN, ?_, by omega⟩
        rw [← ew]
        (conv => whnf); exact zent
  · obtain rfl : i = l.length := by omega
    rw [List.drop_length] at hI
    have hVt : V = true := by rw [hI]; cases prev l l.length <;> rfl
    subst hVt
    repeat' ((conv => whnf); first | (with_reducible first | refine br_t ?_ | refine br_f ?_ | refine za ?_ | refine zg ?_) | refine zp ?_ | refine zq ?_ | (with_reducible first | refine bc (fun h => ?_) (fun h => ?_) | refine zt ?_ | refine zf ?_ | refine br_i (fun h => ?_) (fun h => ?_)) | refine zg ?_ | refine zi ?_ | refine zb ?_)
    all_goals conv => whnf
    all_goals first | rfl | exact r_bool (by simp [hll]; omega)
end Go.Proofs.YtgdpogdgpfjnoaaGreatDoor

namespace Go.Proofs.YtgdpogdgpfjnoaaGreatDoor
open Go.RowKit Go.Sort Sx Go.Lib
def fit2 (n d : Int) : Prop := fitI n ∧ fitI d
def rin (r : Rp) : Prop := fit2 r.n r.d ∧ ∀ m ∈ r.ms, fit2 m.n m.d
theorem frV_of {n d : Int} (h : chk n d = 0) (hf : fit2 n d) : frV (numV n d).1 = some (n, d) := by
  unfold frV
  rw [show (numV n d).1 = wrtV n d by unfold numV; rw [if_pos h], readV_is.of n d h hf.1 hf.2]
  rfl
theorem frV_fit {s : Str} {q : Int × Int} (h : frV s = some q) : fit2 q.1 q.2 := by
  unfold frV at h
  split at h
  · rename_i h0
    injection h with h
    subst h
    exact readV_is.fit s h0
  · cases h
theorem mRun_ok : ∀ {p : Option Mt} {l : List Mt}, mRun p l = true → ∀ m ∈ l, mOk m = true
  | _, [], _, m, h => by cases h
  | none, x :: r, h, m, hm => by
    unfold mRun at h
    simp only [Bool.and_eq_true] at h
    rcases List.mem_cons.1 hm with rfl | hm
    · exact h.1
    · exact mRun_ok h.2 m hm
  | some p, x :: r, h, m, hm => by
    unfold mRun at h
    simp only [Bool.and_eq_true] at h
    rcases List.mem_cons.1 hm with rfl | hm
    · exact h.1.1
    · exact mRun_ok h.2 m hm
theorem rdMs_of : ∀ {l : List Mt}, (∀ m ∈ l, mOk m = true) → (∀ m ∈ l, fit2 m.n m.d) → rdMs (l.flatMap mWords) = some l
  | [], _, _ => rfl
  | m :: l, h, hf => by
    obtain ⟨c1, c2, c3, c4⟩ := mOk_i.1 (h m (List.mem_cons_self ..))
    have ih := rdMs_of (l := l) (fun x hx => h x (List.mem_cons_of_mem _ hx)) fun x hx => hf x (List.mem_cons_of_mem _ hx)
    rw [List.flatMap_cons]
    show rdMs ((numV m.n m.d).1 :: itoa m.i :: itoa m.j :: l.flatMap mWords) = _
    rw [rdMs, frV_of c1 (hf m (List.mem_cons_self ..)), atoV_id c2 (by omega), atoV_id (by omega) c4, ih]
    rfl
theorem smV_of {n hi : Int} (h0 : 0 ≤ n) (h1 : n ≤ hi) (h2 : hi ≤ 65535) : smV (itoa n) hi = (n, true) := by
  unfold smV
  rw [wholeR_itoa (by unfold fitI; omega)]
  simp [h0, h1]
theorem metV_of {m : Mt} (h : mOk m = true) (hf : fit2 m.n m.d) : metV (numV m.n m.d).1 (itoa m.i) (itoa m.j) = (m, true) := by
  obtain ⟨c1, c2, c3, c4⟩ := mOk_i.1 h
  unfold metV
  rw [show (numV m.n m.d).1 = wrtV m.n m.d by unfold numV; rw [if_pos c1], readR_is.of m.n m.d c1 hf.1 hf.2, smV_of c2 (by omega) (by decide), smV_of (by omega) c4 (by decide)]
  simp
theorem rdMr_of : ∀ {l : List Mt}, (∀ m ∈ l, mOk m = true) → (∀ m ∈ l, fit2 m.n m.d) → rdMr (l.flatMap mWords) = some l
  | [], _, _ => rfl
  | m :: l, h, hf => by
    have ih := rdMr_of (l := l) (fun x hx => h x (List.mem_cons_of_mem _ hx)) fun x hx => hf x (List.mem_cons_of_mem _ hx)
    rw [List.flatMap_cons]
    show rdMr ((numV m.n m.d).1 :: itoa m.i :: itoa m.j :: l.flatMap mWords) = _
    rw [rdMr, metV_of (h m (List.mem_cons_self ..)) (hf m (List.mem_cons_self ..)), ih]
    rfl
theorem mWords_len : ∀ l : List Mt, (l.flatMap mWords).length = 3 * l.length
  | [] => rfl
  | m :: l => by rw [List.flatMap_cons, List.length_append, mWords_len l, List.length_cons]; show 3 + _ = _; omega
theorem rchk_cases {r : Rp} (h : rchk r = 0) : (1 ≤ r.e ∧ r.e ≤ 99 ∧ r = rpE r.e) ∨ (r.ms ≠ [] ∧ mtR r.ms = true ∧ r = ⟨0, 0, 0, 0, 0, r.ms⟩) ∨ (r.d ≠ 0 ∧ chk r.n r.d = 0 ∧ 0 ≤ r.i ∧ r.i ≤ 65535 ∧ r = ⟨0, r.i, 0, r.n, r.d, []⟩) ∨ (r.d ≠ 0 ∧ chk r.n r.d = 0 ∧ 0 ≤ r.i ∧ r.i < r.j ∧ r.j ≤ 65535 ∧ 0 ≤ r.n ∧ r = ⟨0, r.i, r.j, r.n, r.d, []⟩) ∨ r = rp0 := by
  obtain ⟨e, i, j, n, d, l⟩ := r
  unfold rchk at h
  simp only at h ⊢
  split at h
  · split at h
    · rename_i hc; exact .inl hc
    · omega
  rename_i he
  have he : e = 0 := Decidable.not_not.1 he
  subst he
  split at h
  · rename_i hl
    split at h
    · rename_i hc; exact .inr (.inl ⟨hl, hc.1, hc.2⟩)
    · omega
  rename_i hl
  have hl : l = [] := Decidable.not_not.1 hl
  subst hl
  split at h
  · rename_i hd
    split at h
    · rename_i hc
      obtain ⟨c1, c2, c3⟩ := hc
      unfold nmd at c2
      simp only [Bool.and_eq_true, decide_eq_true_eq] at c2
      rcases c3 with rfl | ⟨c4, c5, c6⟩
      · exact .inr (.inr (.inl ⟨hd, c1, c2.1, c2.2, rfl⟩))
      · unfold nmd at c5
        simp only [Bool.and_eq_true, decide_eq_true_eq] at c5
        exact .inr (.inr (.inr (.inl ⟨hd, c1, c2.1, c4, c5.2, c6, rfl⟩)))
    · omega
  · split at h
    · rename_i hc; exact .inr (.inr (.inr (.inr hc)))
    · omega
end Go.Proofs.YtgdpogdgpfjnoaaGreatDoor

namespace Go.Proofs.YtgdpogdgpfjnoaaGreatDoor
open Go.RowKit Go.Sort Sx Go.Lib
theorem words_e {e : Int} (h : e ≠ 0) : rWords (rpE e) = [wErr, itoa e] := if_pos h
theorem words_m {l : List Mt} (h : l ≠ []) : rWords ⟨0, 0, 0, 0, 0, l⟩ = wMeet :: l.flatMap mWords := by
  unfold rWords
  rw [if_neg (by simp), if_pos h]
theorem words_l {i n d : Int} (h : d ≠ 0) : rWords ⟨0, i, 0, n, d, []⟩ = [wLeader, itoa i, (numV n d).1] := by
  unfold rWords
  rw [if_neg (by simp), if_neg (by simp), if_neg h, if_pos rfl]
theorem words_p {i j n d : Int} (h : d ≠ 0) (hj : j ≠ 0) : rWords ⟨0, i, j, n, d, []⟩ = [wPair, itoa i, itoa j, (numV n d).1] := by
  unfold rWords
  rw [if_neg (by simp), if_neg (by simp), if_neg h, if_neg hj]
theorem rdWP_of {r : Rp} (h : rchk r = 0) (hf : rin r) : rdWP ((rWords r).headD []) (rWords r).tail = some r := by
  rcases rchk_cases h with ⟨h1, h2, h3⟩ | ⟨h1, h2, h3⟩ | ⟨h0, h1, h2, h3, h4⟩ | ⟨h0, h1, h2, h3, h4, h5, h6⟩ | h1
  · rw [h3, words_e (by omega)]
    show rdWP wErr [itoa r.e] = _
    unfold rdWP
    rw [if_neg (by decide), if_pos rfl]
    show (atoV (itoa r.e)).map _ = _
    rw [atoV_id (by omega) (by omega)]
    rfl
  · have hm := hf.2
    rw [h3, words_m h1]
    show rdWP wMeet (r.ms.flatMap mWords) = _
    unfold rdWP
    rw [if_neg (by decide), if_neg (by decide), if_neg (by decide), if_neg (by decide), if_pos rfl, rdMs_of (mRun_ok (by unfold mtR at h2; simp only [Bool.and_eq_true] at h2; exact h2.1)) hm]
    rfl
  · have hm := hf.1
    rw [h4, words_l h0]
    show rdWP wLeader [itoa r.i, (numV r.n r.d).1] = _
    unfold rdWP
    rw [if_neg (by decide), if_neg (by decide), if_pos rfl]
    show (match atoV (itoa r.i), frV (numV r.n r.d).1 with | some i, some q => _ | _, _ => _) = _
    rw [atoV_id h2 h3, frV_of h1 hm]
  · have hm := hf.1
    rw [h6, words_p h0 (by omega)]
    show rdWP wPair [itoa r.i, itoa r.j, (numV r.n r.d).1] = _
    unfold rdWP
    rw [if_neg (by decide), if_neg (by decide), if_neg (by decide), if_pos rfl]
    show (match atoV (itoa r.i), atoV (itoa r.j), frV (numV r.n r.d).1 with | some i, some j, some q => _ | _, _, _ => _) = _
    rw [atoV_id h2 (by omega), atoV_id (by omega) h4, frV_of h1 hm]
  · subst h1; rfl
theorem rdWR_of {r : Rp} (h : rchk r = 0) (hf : rin r) : rdWR ((rWords r).headD []) (rWords r).tail = some r := by
  rcases rchk_cases h with ⟨h1, h2, h3⟩ | ⟨h1, h2, h3⟩ | ⟨h0, h1, h2, h3, h4⟩ | ⟨h0, h1, h2, h3, h4, h5, h6⟩ | h1
  · rw [h3, words_e (by omega)]
    show rdWR wErr [itoa r.e] = _
    unfold rdWR
    rw [if_neg (fun h => absurd h.1 (by decide)), if_pos ⟨rfl, rfl⟩]
    show (if (smV (itoa r.e) 99).2 = true then some (rpE (smV (itoa r.e) 99).1) else none) = _
    rw [smV_of (by omega) h2 (by decide)]
    rfl
  · have hm := hf.2
    rw [h3, words_m h1]
    show rdWR wMeet (r.ms.flatMap mWords) = _
    unfold rdWR
    rw [if_neg (fun h => absurd h.1 (by decide)), if_neg (fun h => absurd h.1 (by decide)), if_neg (fun h => absurd h.1 (by decide)), if_neg (fun h => absurd h.1 (by decide)), if_pos ⟨rfl, by rw [mWords_len]; omega⟩, rdMr_of (mRun_ok (by unfold mtR at h2; simp only [Bool.and_eq_true] at h2; exact h2.1)) hm]
    rfl
  · have hm := hf.1
    rw [h4, words_l h0]
    show rdWR wLeader [itoa r.i, (numV r.n r.d).1] = _
    unfold rdWR
    rw [if_neg (fun h => absurd h.1 (by decide)), if_neg (fun h => absurd h.1 (by decide)), if_pos ⟨rfl, rfl⟩]
    simp only [List.getD_cons_zero, List.getD_cons_succ]
    rw [smV_of h2 h3 (by decide), show (numV r.n r.d).1 = wrtV r.n r.d by unfold numV; rw [if_pos h1], readR_is.of _ _ h1 hm.1 hm.2, if_pos ⟨rfl, rfl⟩]
  · have hm := hf.1
    rw [h6, words_p h0 (by omega)]
    show rdWR wPair [itoa r.i, itoa r.j, (numV r.n r.d).1] = _
    unfold rdWR
    rw [if_neg (fun h => absurd h.1 (by decide)), if_neg (fun h => absurd h.1 (by decide)), if_neg (fun h => absurd h.1 (by decide)), if_pos ⟨rfl, rfl⟩]
    simp only [List.getD_cons_zero, List.getD_cons_succ]
    rw [smV_of h2 (by omega) (by decide), smV_of (by omega) h4 (by decide), show (numV r.n r.d).1 = wrtV r.n r.d by unfold numV; rw [if_pos h1], readR_is.of _ _ h1 hm.1 hm.2, if_pos ⟨rfl, rfl, rfl⟩]
  · subst h1; rfl
theorem fit2_0 : fit2 0 0 := by unfold fit2 fitI; omega
theorem rin_e (e : Int) : rin (rpE e) := ⟨fit2_0, fun m h => by cases h⟩
theorem rdMs_fit : ∀ {w : List Str} {l : List Mt}, rdMs w = some l → ∀ m ∈ l, fit2 m.n m.d
  | [], l, h => by rw [rdMs] at h; injection h with h; subst h; intro m hm; cases hm
  | [_], l, h => by cases h
  | [_, _], l, h => by cases h
  | a :: b :: c :: r, l, h => by
    rw [rdMs] at h
    cases ha : frV a with
    | none => rw [ha] at h; cases h
    | some q =>
      cases hb : atoV b with
      | none => rw [ha, hb] at h; cases h
      | some i =>
        cases hc : atoV c with
        | none => rw [ha, hb, hc] at h; cases h
        | some j =>
          rw [ha, hb, hc] at h
          cases hr : rdMs r with
          | none => rw [hr] at h; cases h
          | some l' =>
            rw [hr] at h
            injection h with h
            subst h
            intro m hm
            rcases List.mem_cons.1 hm with rfl | hm
            · exact frV_fit ha
            · exact rdMs_fit hr m hm
theorem rdMr_fit : ∀ {w : List Str} {l : List Mt}, rdMr w = some l → ∀ m ∈ l, fit2 m.n m.d
  | [], l, h => by rw [rdMr] at h; injection h with h; subst h; intro m hm; cases hm
  | [_], l, h => by cases h
  | [_, _], l, h => by cases h
  | a :: b :: c :: r, l, h => by
    rw [rdMr] at h
    split at h
    · rename_i hm0
      cases hr : rdMr r with
      | none => rw [hr] at h; cases h
      | some l' =>
        rw [hr] at h
        injection h with h
        subst h
        intro m hm
        rcases List.mem_cons.1 hm with rfl | hm
        · unfold metV at hm0
          simp only [Bool.and_eq_true, decide_eq_true_eq] at hm0
          exact readR_is.fit a hm0.1
        · exact rdMr_fit hr m hm
    · cases h
theorem rdWP_rin {w0 : Str} {t : List Str} {r : Rp} (h : rdWP w0 t = some r) : rin r := by
  unfold rdWP at h
  split at h
  · injection h with h; subst h; exact rin_e 0
  split at h
  · match t, h with
    | [a], h =>
      cases ha : atoV a with
      | none => simp only [ha] at h; cases h
      | some n => simp only [ha] at h; injection h with h; subst h; exact rin_e n
  split at h
  · match t, h with
    | [a, b], h =>
      cases ha : atoV a with
      | none => simp only [ha] at h; cases h
      | some i =>
        cases hb : frV b with
        | none => simp only [ha, hb] at h; cases h
        | some q => simp only [ha, hb] at h; injection h with h; subst h; exact ⟨frV_fit hb, fun m h => by cases h⟩
  split at h
  · match t, h with
    | [a, b, c], h =>
      cases ha : atoV a with
      | none => simp only [ha] at h; cases h
      | some i =>
        cases hb : atoV b with
        | none => simp only [ha, hb] at h; cases h
        | some j =>
          cases hc : frV c with
          | none => simp only [ha, hb, hc] at h; cases h
          | some q => simp only [ha, hb, hc] at h; injection h with h; subst h; exact ⟨frV_fit hc, fun m h => by cases h⟩
  split at h
  · cases hm : rdMs t with
    | none => rw [hm] at h; cases h
    | some l => rw [hm] at h; injection h with h; subst h; exact ⟨fit2_0, rdMs_fit hm⟩
  · cases h
theorem rdWR_rin {w0 : Str} {t : List Str} {r : Rp} (h : rdWR w0 t = some r) : rin r := by
  unfold rdWR at h
  split at h
  · injection h with h; subst h; exact rin_e 0
  split at h
  · split at h
    · injection h with h; subst h; exact rin_e _
    · cases h
  split at h
  · split at h
    · rename_i hc; injection h with h; subst h; exact ⟨readR_is.fit _ hc.2, fun m h => by cases h⟩
    · cases h
  split at h
  · split at h
    · rename_i hc; injection h with h; subst h; exact ⟨readR_is.fit _ hc.2.2, fun m h => by cases h⟩
    · cases h
  split at h
  · cases hm : rdMr t with
    | none => rw [hm] at h; cases h
    | some l => rw [hm] at h; injection h with h; subst h; exact ⟨fit2_0, rdMr_fit hm⟩
  · cases h
theorem backR_rin {s : Str} {m : Option Rp} (hm : ∀ r, m = some r → rin r) : rin (backR s m).1 := by
  unfold backR
  cases m with
  | none => exact rin_e 0
  | some r =>
    dsimp only
    split
    · exact hm r rfl
    · exact rin_e 0
theorem rrdP_is : Reads rText (fun r => rchk r = 0 ∧ rin r) rp0 rrdP := by
  refine ⟨fun s h => ?_, fun s h => backR_no h, fun r hr => ?_⟩
  · obtain ⟨h1, h2⟩ := backR_ok h
    exact ⟨⟨h1, backR_rin fun r hr => rdWP_rin hr⟩, h2⟩
  · unfold rrdP
    rw [spl_text, rdWP_of hr.1 hr.2]
    exact backR_of hr.1 rfl
theorem rrdR_is : Reads rText (fun r => rchk r = 0 ∧ rin r) rp0 rrdR := by
  refine ⟨fun s h => ?_, fun s h => backR_no h, fun r hr => ?_⟩
  · obtain ⟨h1, h2⟩ := backR_ok h
    exact ⟨⟨h1, backR_rin fun r hr => rdWR_rin hr⟩, h2⟩
  · unfold rrdR
    rw [spl_text, rdWR_of hr.1 hr.2]
    exact backR_of hr.1 rfl
theorem rread_eq (s : Str) : rreadP s = rreadR s := by
  unfold rreadP rreadR
  rw [rrdP_is.eq rrdR_is s]
end Go.Proofs.YtgdpogdgpfjnoaaGreatDoor

namespace Go.Proofs.YtgdpogdgpfjnoaaGreatDoor
open Go Go.RowKit Go.Sort Sx
open Go.Lib hiding intOf
theorem bsz (s : Str) : (⟨s.toArray⟩ : ByteArray).size = s.length := by simp [ByteArray.size]
theorem bdl (s : Str) : (⟨s.toArray⟩ : ByteArray).data.toList = s := by simp
theorem atoV_ok {s : Str} {v : Int} (h : atoV s = some v) : atoiAll s = .ok v := by
  unfold atoV at h
  split at h
  · rename_i v' e; injection h with h; subst h; exact e
  · cases h
theorem below_bw {w w' : World} {e : TypeId} (h : w' = w ∨ ∃ t, w' = Lib.bytesWorld w e t) : Below w.heap.size w w' := by
  rcases h with rfl | ⟨t, rfl⟩
  · exact Below.refl _ _
  · exact bytesWorld_below _ _ _
theorem atoi_yes {s : Str} {v : Int} (hs : s.length ≤ 1000000) (h : atoV s = some v) (w : World) : Calls Tryz.prog 91 #[bstr s] w fun e w' => e = .returned (.tuple #[.int .i64 v, .nilIface]) ∧ Below w.heap.size w w' :=
  (Tryz.strconv_Atoi_ok ⟨s.toArray⟩ (by rw [bsz]; omega) v (by rw [bdl]; exact atoV_ok h) w).mono fun _ _ ⟨a, b⟩ => ⟨a, below_bw b⟩
theorem parse_yes {s : Str} {v : Int} (hs : s.length ≤ 1000000) (h : atoV s = some v) (w : World) : Calls Tryz.prog 92 #[bstr s, .int .i64 10, .int .i64 64] w fun e w' => e = .returned (.tuple #[.int .i64 v, .nilIface]) ∧ Below w.heap.size w w' :=
  (Tryz.strconv_ParseInt_10_at64_ok ⟨s.toArray⟩ (by rw [bsz]; omega) v (by rw [parseIntB_64, bdl]; exact atoV_ok h) w).mono fun _ _ ⟨a, b⟩ => ⟨a, below_bw b⟩
theorem atoi_no {s : Str} (hs : s.length ≤ 1000000) (h : atoV s = none) {w : World} (hg : Gd w) : Calls Tryz.prog 91 #[bstr s] w fun e w' => ∃ n N, e = .returned (.tuple #[.int .i64 n, .iface 252 (.pointer (some ⟨N, 0, none⟩))]) ∧ Below w.heap.size w w' := by
  obtain ⟨t1, p1, h1⟩ := hg.es
  obtain ⟨t2, p2, h2⟩ := hg.er
  have hz : (⟨s.toArray⟩ : ByteArray).size ≤ 281474976710656 := by rw [bsz]; omega
  unfold atoV at h
  rcases e : atoiAll s with v | _ | _
  · rw [e] at h; cases h
  · exact (Tryz.strconv_Atoi_syntax_var ⟨s.toArray⟩ hz (by rw [bdl]; exact e) t1 p1 w h1).mono fun _ _ ⟨N, a, _, _, b⟩ => ⟨_, N, a, b⟩
  · exact (Tryz.strconv_Atoi_range_var ⟨s.toArray⟩ hz (by rw [bdl]; exact e) t2 p2 w h2).mono fun _ _ ⟨N, a, _, _, b⟩ => ⟨_, N, a, b⟩
theorem parse_no {s : Str} (hs : s.length ≤ 1000000) (h : atoV s = none) {w : World} (hg : Gd w) : Calls Tryz.prog 92 #[bstr s, .int .i64 10, .int .i64 64] w fun e w' => ∃ n N, e = .returned (.tuple #[.int .i64 n, .iface 252 (.pointer (some ⟨N, 0, none⟩))]) ∧ Below w.heap.size w w' := by
  obtain ⟨t1, p1, h1⟩ := hg.es
  obtain ⟨t2, p2, h2⟩ := hg.er
  have hz : (⟨s.toArray⟩ : ByteArray).size ≤ 281474976710656 := by rw [bsz]; omega
  unfold atoV at h
  rcases e : atoiAll s with v | _ | _
  · rw [e] at h; cases h
  · exact (Tryz.strconv_ParseInt_10_at64_syntax_var ⟨s.toArray⟩ hz (by rw [parseIntB_64, bdl]; exact e) t1 p1 w h1).mono fun _ _ ⟨N, a, _, _, b⟩ => ⟨_, N, a, b⟩
  · exact (Tryz.strconv_ParseInt_10_at64_range_var ⟨s.toArray⟩ hz (by rw [parseIntB_64, bdl]; exact e) t2 p2 w h2).mono fun _ _ ⟨N, a, _, _, b⟩ => ⟨_, N, a, b⟩
inductive Tg where
  | i (b o : Nat)
  | l (b o : Nat)
  | r (b o : Nat)
def Tg.b : Tg → Nat
  | .i b _ => b
  | .l b _ => b
  | .r b _ => b
def Tg.v : Tg → Value
  | .i b o => .iface 141 (.pointer (some ⟨b, o, none⟩))
  | .l b o => .iface 150 (.pointer (some ⟨b, o, none⟩))
  | .r b o => .iface 97 (.pointer (some ⟨b, o, none⟩))
def Cel (W : World) (b o : Nat) : Prop := (∃ u, W.cell? ⟨b, o, none⟩ = some u) ∧ W.frozen? ⟨b, o, none⟩ = false
def Tg.ok (W : World) : Tg → Prop
  | .i b o => Cel W b o
  | .l b o => Cel W b o
  | .r b o => Cel W b o ∧ Cel W b (o + 1)
def Tg.put (s : Str) (W : World) : Tg → Option World
  | .i b o => (atoV s).map fun n => W.setCell ⟨b, o, none⟩ (.int .i64 n)
  | .l b o => (atoV s).map fun n => W.setCell ⟨b, o, none⟩ (.int .i64 n)
  | .r b o => (frV s).map fun q => (W.setCell ⟨b, o, none⟩ (.int .i64 q.1)).setCell ⟨b, o + 1, none⟩ (.int .i64 q.2)
def scanW : List Str → List Tg → World → World × Bool
  | s :: ws, t :: ts, W => match t.put s W with
    | some W' => scanW ws ts W'
    | none => (W, false)
  | _, _, W => (W, true)
theorem cel_set {W : World} {b o : Nat} (h : Cel W b o) (a : Addr) (v : Value) : Cel (W.setCell a v) b o := by
  obtain ⟨⟨u, h1⟩, h2⟩ := h
  refine ⟨cell?_setCell_some h1, ?_⟩
  by_cases e : b = a.block
  · subst e
    unfold World.frozen? at h2 ⊢
    simp only [World.setCell, Array.getElem?_modify] at h2 ⊢
    cases hk : W.heap[a.block]? with
    | none => simp [World.cell?, hk] at h1
    | some x =>
      simp only [hk] at h2 ⊢
      cases x <;> simp_all
  · rw [World.frozen?_of_block (w := W) (Below.heap_setCell W a v b e)]; exact h2
theorem Tg.ok_set {W : World} {t : Tg} (h : t.ok W) (a : Addr) (v : Value) : t.ok (W.setCell a v) := by
  cases t with
  | i b o => exact cel_set h a v
  | l b o => exact cel_set h a v
  | r b o => exact ⟨cel_set h.1 a v, cel_set h.2 a v⟩
theorem cel_of {W W' : World} {b o : Nat} (h : Cel W b o) (e : W'.heap[b]? = W.heap[b]?) : Cel W' b o := by
  obtain ⟨⟨u, h1⟩, h2⟩ := h
  exact ⟨⟨u, (World.cell?_of_block (w := W) (a := ⟨b, o, none⟩) e).trans h1⟩, (World.frozen?_of_block (w := W) (a := ⟨b, o, none⟩) e).trans h2⟩
theorem size_set (W : World) (a : Addr) (v : Value) : (W.setCell a v).heap.size = W.heap.size := by simp [World.setCell]
theorem below_set {n : Nat} {W W' : World} (h : Below n W W') (a : Addr) (v : Value) : Below n (W.setCell a v) (W'.setCell a v) := by
  refine ⟨h.os, h.tape, h.output, by rw [size_set, size_set]; exact h.size, fun k hk => ?_⟩
  simp only [World.setCell, Array.getElem?_modify]
  rw [h.block k hk]
end Go.Proofs.YtgdpogdgpfjnoaaGreatDoor
