import Derived.Test.YtnhljlihchegjaaGreatGbAS
set_option linter.all false
/- Fields: the order at a time. No conditions. -/
namespace Go.Proofs.YtnhljlihchegjaaGreat
open Go Go.RowKit Go.Sort Sx
/-- who is ahead at a time: farther, or faster, or of the lesser ID -/
def fx (n m : Int) (p : Pt) : Int := p.a * m + p.b * n
def ldr (n m : Int) (p q : Pt) : Prop := fx n m q < fx n m p ∨ fx n m p = fx n m q ∧ (q.b < p.b ∨ p.b = q.b ∧ p.id < q.id)
instance (n m : Int) (p q : Pt) : Decidable (ldr n m p q) := by unfold ldr; infer_instance
/-- the points of a field, the leader first -/
def srt (n m : Int) (l : List Pt) : List Pt := l.mergeSort fun x y => !decide (ldr n m y x)
theorem leadN_ldr (n m : Int) (p q : Pt) : leadN p.id p.b q.id q.b ((p.a - q.a) * m + (p.b - q.b) * n) > 0 ↔ ldr n m p q := by
  have e : (p.a - q.a) * m + (p.b - q.b) * n = fx n m p - fx n m q := by unfold fx; simp only [Int.sub_mul]; omega
  rw [e]
  unfold ldr leadN cmpN
  generalize fx n m p = x
  generalize fx n m q = y
  (repeat' split) <;> omega
def cfP (n m : Int) (p q : Pt) : Int := if p.id = q.id then 0 else if ldr n m p q then -1 else 1
theorem two02_ne {n m : Int} {p q : Pt} (hp : p.chk = 0) (hq : q.chk = 0) (ht : chk n m = 0) (hne : p.id ≠ q.id) : two02 p.id p.a p.b q.id q.a q.b n m = 0 := by
  unfold two02
  rw [if_pos ⟨hp, hq, ht⟩, if_neg hne]
theorem fsorted1_fnd {n m : Int} {p q : Pt} (hp : p.chk = 0) (hq : q.chk = 0) (ht : chk n m = 0) : FnD Tryz.prog 120 [p.dc, q.dc, .one (.ref [i64 n, i64 m])] (ret1 (cfP n m p q)) := by
  have hcap : ([[i64 n, i64 m]] : List (List D))[0]? = some [i64 n, i64 m] := rfl
  unfold cfP
  by_cases h : p.id = q.id
  · rw [if_pos h]
    refine fn_okD (by kernel_rfl) ty_okD rfl Tryz.func120 rfl (fun _ _ => Tryz.call120 _ _) rfl ?_
    intro hw
    clear hw
    repeat' ((conv => whnf); first | (with_reducible first | refine br_t ?_ | refine br_f ?_ | refine zd ?_ | refine za ?_ | refine zg ?_ | refine zo ?_ | refine zb ?_ | refine zm ?_ | refine zc ?_ | refine ze ?_) | ((with_reducible refine bc_t ?_ ?_); (first | omega | decide)) | ((with_reducible refine bc_f ?_ ?_); (first | omega | decide)) | (with_reducible first | refine bc (fun h => ?_) (fun h => ?_) | refine zt ?_ | refine zf ?_ | refine br_i (fun h => ?_) (fun h => ?_)) | refine zg ?_ | refine zi ?_)
    all_goals conv => whnf
    all_goals rfl
  · rw [if_neg h]
    have H := kAhead_fnd p.id p.a p.b q.id q.a q.b n m
    unfold aheadV at H
    rw [if_pos (two02_ne hp hq ht h)] at H
    simp only [retBI] at H
    by_cases hl : ldr n m p q
    · rw [if_pos hl]
      rw [decide_eq_true ((leadN_ldr n m p q).2 hl)] at H
      refine fn_okD (by kernel_rfl) ty_okD rfl Tryz.func120 rfl (fun _ _ => Tryz.call120 _ _) rfl ?_
      intro hw
      clear hw
      repeat' ((conv => whnf); first | (with_reducible first | refine br_t ?_ | refine br_f ?_ | refine zd ?_ | refine za ?_ | refine zg ?_ | refine zo ?_ | refine zb ?_ | refine zm ?_ | refine zc ?_ | refine ze ?_) | ((with_reducible refine bc_t ?_ ?_); (first | omega | decide)) | ((with_reducible refine bc_f ?_ ?_); (first | omega | decide)) | (with_reducible first | refine bc (fun h => ?_) (fun h => ?_) | refine zt ?_ | refine zf ?_ | refine br_i (fun h => ?_) (fun h => ?_)) | refine zg ?_ | refine zi ?_)
      all_goals conv => whnf
      all_goals rfl
    · rw [if_neg hl]
      rw [decide_eq_false (fun h => hl ((leadN_ldr n m p q).1 h))] at H
      refine fn_okD (by kernel_rfl) ty_okD rfl Tryz.func120 rfl (fun _ _ => Tryz.call120 _ _) rfl ?_
      intro hw
      clear hw
      repeat' ((conv => whnf); first | (with_reducible first | refine br_t ?_ | refine br_f ?_ | refine zd ?_ | refine za ?_ | refine zg ?_ | refine zo ?_ | refine zb ?_ | refine zm ?_ | refine zc ?_ | refine ze ?_) | ((with_reducible refine bc_t ?_ ?_); (first | omega | decide)) | ((with_reducible refine bc_f ?_ ?_); (first | omega | decide)) | (with_reducible first | refine bc (fun h => ?_) (fun h => ?_) | refine zt ?_ | refine zf ?_ | refine br_i (fun h => ?_) (fun h => ?_)) | refine zg ?_ | refine zi ?_)
      all_goals conv => whnf
      all_goals rfl
/-- IDs that differ -/
def apart (l : List Pt) : Prop := ∀ p ∈ l, ∀ q ∈ l, p.id = q.id → p = q
theorem incr_apart {l : List Pt} (h : incr l = true) : apart l := by
  intro p hp q hq e
  obtain ⟨i, hi, rfl⟩ := List.getElem_of_mem hp
  obtain ⟨j, hj, rfl⟩ := List.getElem_of_mem hq
  rcases Nat.lt_trichotomy i j with h1 | h1 | h1
  · have := incr_lt h j i hj h1; omega
  · exact getElem_congr rfl h1 _
  · have := incr_lt h i j hi h1; omega
theorem lt_cfP {n m : Int} {l : List Pt} (ha : apart l) {p q : Pt} (hp : p ∈ l) (hq : q ∈ l) : ltOf (cfP n m) p q = decide (ldr n m p q) := by
  unfold ltOf cfP
  by_cases h : p.id = q.id
  · have := ha p hp q hq h
    subst this
    rw [if_pos rfl]
    have : ¬ ldr n m p p := by unfold ldr; omega
    simp [this]
  · rw [if_neg h]
    by_cases hl : ldr n m p q <;> simp [hl]
theorem sortPt_mu {n m : Int} {l : List Pt} (hl : ∀ p ∈ l, p.chk = 0) (ha : apart l) (ht : chk n m = 0) (hsz : l.length ≤ 1000000) : FnMu Tryz.prog 119 3 (l.map Pt.c) [.one (.clo 120 [[i64 n, i64 m]])] ((srt n m l).map Pt.c) := by
  cases l with
  | nil =>
    have := sort_mu (P := Tryz.prog) (ρ := Tryz.sortPt_ren) (α := Unit) (k := 3) Tryz.sortPt (by decide) Tryz.isAgg30 Tryz.sizeOf30 (fun _ => [.int .i64 0, .int .i64 0, .int .i64 0]) (fun _ => rfl) (fun _ v hv => by simp at hv; subst hv; exact ⟨rfl, WD_v.1 (wd_i64.2 (by omega))⟩) (fun _ _ => 0)
      ⟨fun _ => rfl, fun _ _ _ h => by simp [ltOf] at h, fun _ _ _ _ _ => rfl⟩ (fun _ _ _ _ => rfl) (g := 120) (caps := [[i64 n, i64 m]]) (fun _ _ => Tryz.call120 _ _) (fun _ _ => Tryz.call119 _ _)
      (fun _ _ => by
        have := fsorted1_fnd (n := n) (m := m) (p := ⟨0, 0, 0⟩) (q := ⟨0, 0, 0⟩) rfl rfl ht
        unfold cfP at this
        rw [if_pos rfl] at this
        exact this) [] (by decide)
    simp only [List.map_nil, List.mergeSort_nil] at this
    rw [show srt n m [] = [] by simp [srt]]
    exact this
  | cons y ys =>
    generalize hd : y :: ys = l at *
    have : Inhabited {p : Pt // p ∈ l} := ⟨⟨y, by rw [← hd]; exact List.mem_cons_self ..⟩⟩
    have key := sort_mu (P := Tryz.prog) (ρ := Tryz.sortPt_ren) (α := {p : Pt // p ∈ l}) (k := 3) Tryz.sortPt (by decide) Tryz.isAgg30 Tryz.sizeOf30 (fun p => [.int .i64 p.1.id, .int .i64 p.1.a, .int .i64 p.1.b]) (fun _ => rfl) (fun p v hv => by
        have hc := cpt_ok (hl p.1 p.2)
        simp at hv
        rcases hv with rfl | rfl | rfl
        all_goals exact ⟨rfl, WD_v.1 (wd_i64.2 (by omega))⟩) (fun p q => cfP n m p.1 q.1)
      ⟨fun p => ?_, fun p q r h1 h2 => ?_, fun p q r h1 h2 => ?_⟩ (fun p q h1 h2 => ?_) (g := 120) (caps := [[i64 n, i64 m]]) (fun _ _ => Tryz.call120 _ _) (fun _ _ => Tryz.call119 _ _)
      (fun p q => fsorted1_fnd (hl p.1 p.2) (hl q.1 q.2) ht) l.attach (by simp; omega)
    · have e1 : (l.attach.map fun p => ([.int .i64 p.1.id, .int .i64 p.1.a, .int .i64 p.1.b] : List Value).map D.v) = l.map Pt.c := by
        rw [show (fun p : {p : Pt // p ∈ l} => ([.int .i64 p.1.id, .int .i64 p.1.a, .int .i64 p.1.b] : List Value).map D.v) = Pt.c ∘ Subtype.val from rfl, ← List.map_map, List.attach_map_subtype_val]
      have e2 : ((l.attach.mergeSort fun x y => !(ltOf fun p q : {p : Pt // p ∈ l} => cfP n m p.1 q.1) y x).map fun p => ([.int .i64 p.1.id, .int .i64 p.1.a, .int .i64 p.1.b] : List Value).map D.v) = (srt n m l).map Pt.c := by
        rw [show (fun p : {p : Pt // p ∈ l} => ([.int .i64 p.1.id, .int .i64 p.1.a, .int .i64 p.1.b] : List Value).map D.v) = Pt.c ∘ Subtype.val from rfl, ← List.map_map]
        rw [List.map_mergeSort (s := fun x y => !decide (ldr n m y x)) (fun a _ b _ => by
          have := lt_cfP (n := n) (m := m) ha b.2 a.2
          unfold ltOf at this ⊢
          rw [this]), List.attach_map_subtype_val]
        rfl
      rw [e1, e2] at key
      exact key
    · exact (lt_cfP ha p.2 p.2).trans (decide_eq_false (by unfold ldr; omega))
    · have k1 := of_decide_eq_true ((lt_cfP ha p.2 q.2).symm.trans h1)
      have k2 := of_decide_eq_true ((lt_cfP ha q.2 r.2).symm.trans h2)
      exact (lt_cfP ha p.2 r.2).trans (decide_eq_true (by unfold ldr at *; omega))
    · have k1 := of_decide_eq_false ((lt_cfP ha p.2 q.2).symm.trans h1)
      have k2 := of_decide_eq_false ((lt_cfP ha q.2 r.2).symm.trans h2)
      exact (lt_cfP ha p.2 r.2).trans (decide_eq_false (by unfold ldr at *; omega))
    · have k1 := of_decide_eq_false ((lt_cfP ha p.2 q.2).symm.trans h1)
      have k2 := of_decide_eq_false ((lt_cfP ha q.2 p.2).symm.trans h2)
      exact Subtype.ext (ha _ p.2 _ q.2 (by unfold ldr at *; omega))
end Go.Proofs.YtnhljlihchegjaaGreat

/- Fields: leader and order, the walks. No conditions. -/
namespace Go.Proofs.YtnhljlihchegjaaGreat
open Go Go.RowKit Go.Sort Sx
/-- errors of a field and a time -/
def tchk (l : List Pt) (n m : Int) : Int := if fchk l = 0 then chk n m else fchk l
abbrev retL (l : List Pt) (e : Int) : DV := .tup [.one (pts l), .one (i64 e)]
theorem fsorted_fn (l : List Pt) (n m : Int) : FnOK Tryz.prog 80 [fld l, rat n m] (if tchk l n m = 0 then retL (srt n m l) 0 else retL [] (tchk l n m)) := by
  have H1 := fCheck_fn l
  have H2 := check_fn n m
  unfold tchk
  by_cases h1 : fchk l = 0
  · obtain ⟨k1, k2, k3⟩ := fchk_ok h1
    simp only [if_pos h1]
    rw [h1] at H1
    by_cases h2 : chk n m = 0
    · rw [if_pos h2]
      rw [h2] at H2
      have H3 := clonePt_own (l.map Pt.c) (by simp; omega)
      have H4 := sortPt_mu (n := n) (m := m) k2 (incr_apart k3) h2 (by omega)
      refine fn_ok (by kernel_rfl) (ty_okK [21] [119] [] []) Tryz.func80 rfl (fun _ _ => Tryz.call80 _ _) rfl ?_
      intro hw
      clear hw
      exact zw
    · rw [if_neg h2]
      have h8 : chk n m = 8 := (chk_08 n m).resolve_left h2
      rw [h8] at H2 ⊢
      refine fn_ok (by kernel_rfl) ty_ok Tryz.func80 rfl (fun _ _ => Tryz.call80 _ _) rfl ?_
      intro hw
      clear hw
      exact zw
  · simp only [if_neg h1]
    generalize fchk l = z at *
    refine fn_ok (by kernel_rfl) ty_ok Tryz.func80 rfl (fun _ _ => Tryz.call80 _ _) rfl ?_
    intro hw
    clear hw
    exact zw
/-- the leader -/
def leadV (l : List Pt) (n m : Int) : Int × Int := if tchk l n m = 0 then (if l.length = 0 then (0, 42) else (((srt n m l)[0]?.getD default).id, 0)) else (0, tchk l n m)
theorem fLeader_fn (l : List Pt) (n m : Int) : FnOK Tryz.prog 38 [fld l, rat n m] (ret2 (leadV l n m)) := by
  refine fn_ok (by kernel_rfl) ty_ok Tryz.func38 rfl (fun _ _ => Tryz.call38 _ _) rfl ?_
  intro hw
  clear hw
  have H := fsorted_fn l n m
  unfold leadV
  by_cases h : tchk l n m = 0
  · rw [if_pos h] at H ⊢
    have hl : (srt n m l).length = l.length := List.length_mergeSort _
    by_cases h0 : l.length = 0
    · rw [if_pos h0]
      repeat' ((conv => whnf); first | (with_reducible first | refine br_t ?_ | refine br_f ?_ | refine za ?_ | refine zg ?_ | refine zo ?_ | refine zb ?_ | refine zm ?_ | refine zc ?_ | refine ze ?_) | rw [List.length_map] | ((with_reducible refine bc_t ?_ ?_); (first | omega | decide)) | ((with_reducible refine bc_f ?_ ?_); (first | omega | decide)) | (with_reducible first | refine bc (fun h => ?_) (fun h => ?_) | refine zt ?_ | refine zf ?_ | refine br_i (fun h => ?_) (fun h => ?_)) | refine zg ?_ | refine zi ?_)
      all_goals conv => whnf
      all_goals rfl
    · rw [if_neg h0]
      have hlt : 0 < (srt n m l).length := by omega
      have hel := pts_get hlt
      rw [List.getElem?_eq_getElem hlt]
      repeat' ((conv => whnf); first | (with_reducible first | refine br_t ?_ | refine br_f ?_ | refine za ?_ | refine zg ?_ | refine zo ?_ | refine zb ?_ | refine zm ?_ | refine zc ?_ | refine ze ?_) | rw [List.length_map] | ((with_reducible refine bc_t ?_ ?_); (first | omega | decide)) | ((with_reducible refine bc_f ?_ ?_); (first | omega | decide)) | (with_reducible first | refine bc (fun h => ?_) (fun h => ?_) | refine zt ?_ | refine zf ?_ | refine br_i (fun h => ?_) (fun h => ?_)) | refine zg ?_ | refine zi ?_)
      all_goals conv => whnf
      all_goals rfl
  · rw [if_neg h] at H ⊢
    generalize tchk l n m = z at *
    exact zw
/-- how many are ahead -/
def rnk (l : List Pt) (n m : Int) (p : Pt) : Nat := l.countP fun q => decide (q.id ≠ p.id ∧ ldr n m q p)
theorem rfRanked_fn {l : List Pt} {p : Pt} {n m : Int} (hl : ∀ p ∈ l, p.chk = 0) (hp : p.chk = 0) : FnOK Tryz.prog 139 [fld l, p.dc, rat n m] (ret1 (rnk l n m p : Nat)) := by
  refine fn_ok (by kernel_rfl) ty_ok Tryz.func139 rfl (fun _ _ => Tryz.call139 _ _) rfl ?_
  intro hw
  simp only [WDCs, WDC, WDs] at hw
  obtain ⟨w1, w2⟩ := wd_pts hw.1.1
  clear hw
  repeat' ((conv => whnf); first | (with_reducible first | refine br_t ?_ | refine br_f ?_ | refine za ?_ | refine zg ?_ | refine zo ?_ | refine zb ?_ | refine zm ?_ | refine zc ?_ | refine ze ?_) | rw [List.length_map] | ((with_reducible refine bc_t ?_ ?_); (first | omega | decide)) | ((with_reducible refine bc_f ?_ ?_); (first | omega | decide)) | (with_reducible first | refine bc (fun h => ?_) (fun h => ?_) | refine zt ?_ | refine zf ?_ | refine br_i (fun h => ?_) (fun h => ?_)) | refine zg ?_ | refine zi ?_)
  refine loop_J (by kernel_rfl) ty_ok (σ := Nat) (fun i => [(8, sV (.int .i64 i)), (7, sV (.int .i64 (rnk (l.take i) n m p : Nat)))]) (fun _ => []) (fun i => i ≤ l.length) (fun i => l.length - i) 0 (Nat.zero_le _) ?_ ?_
  · (conv => whnf); exact zent
  intro i hi
  rcases Nat.lt_or_ge i l.length with hlt | hge
  · have hel := pts_get hlt
    have hc := hl _ (List.getElem_mem hlt)
    have H := kkLeads_fn l[i].id l[i].a l[i].b p.id p.a p.b n m hc hp
    have hk : rnk (l.take i) n m p ≤ i := by unfold rnk; refine Nat.le_trans List.countP_le_length ?_; simp; omega
    have hr : rnk (l.take (i + 1)) n m p = rnk (l.take i) n m p + if l[i].id ≠ p.id ∧ ldr n m l[i] p then 1 else 0 := by
      unfold rnk
      rw [List.take_succ_eq_append_getElem hlt, List.countP_append, List.countP_singleton]
      simp
    by_cases h1 : l[i].id = p.id
    · rw [if_neg (fun h => h.1 h1)] at hr
      generalize rnk (l.take i) n m p = r at *
      repeat' ((conv => whnf); first | (with_reducible first | refine br_t ?_ | refine br_f ?_ | refine za ?_ | refine zg ?_ | refine zo ?_ | refine zb ?_ | refine zm ?_ | refine zc ?_ | refine ze ?_) | rw [List.length_map] | ((with_reducible refine bc_t ?_ ?_); (first | omega | decide)) | ((with_reducible refine bc_f ?_ ?_); (first | omega | decide)) | (with_reducible first | refine bc (fun h => ?_) (fun h => ?_) | refine zt ?_ | refine zf ?_ | refine br_i (fun h => ?_) (fun h => ?_)) | refine zg ?_ | refine zi ?_)
      all_goals conv => whnf
      refine ⟨i + 1, by omega, ?_, by omega⟩
      (conv => whnf); exact zent
    · by_cases h2 : ldr n m l[i] p
      · rw [if_pos ⟨h1, h2⟩] at hr
        rw [decide_eq_true ((leadN_ldr n m l[i] p).2 h2)] at H
        generalize rnk (l.take i) n m p = r at *
        repeat' ((conv => whnf); first | (with_reducible first | refine br_t ?_ | refine br_f ?_ | refine za ?_ | refine zg ?_ | refine zo ?_ | refine zb ?_ | refine zm ?_ | refine zc ?_ | refine ze ?_) | rw [List.length_map] | ((with_reducible refine bc_t ?_ ?_); (first | omega | decide)) | ((with_reducible refine bc_f ?_ ?_); (first | omega | decide)) | (with_reducible first | refine bc (fun h => ?_) (fun h => ?_) | refine zt ?_ | refine zf ?_ | refine br_i (fun h => ?_) (fun h => ?_)) | refine zg ?_ | refine zi ?_)
        all_goals conv => whnf
        refine ⟨i + 1, by omega, ?_, by omega⟩
        (conv => whnf); exact zent
      · rw [if_neg (fun h => h2 h.2)] at hr
        rw [decide_eq_false (fun h => h2 ((leadN_ldr n m l[i] p).1 h))] at H
        generalize rnk (l.take i) n m p = r at *
        repeat' ((conv => whnf); first | (with_reducible first | refine br_t ?_ | refine br_f ?_ | refine za ?_ | refine zg ?_ | refine zo ?_ | refine zb ?_ | refine zm ?_ | refine zc ?_ | refine ze ?_) | rw [List.length_map] | ((with_reducible refine bc_t ?_ ?_); (first | omega | decide)) | ((with_reducible refine bc_f ?_ ?_); (first | omega | decide)) | (with_reducible first | refine bc (fun h => ?_) (fun h => ?_) | refine zt ?_ | refine zf ?_ | refine br_i (fun h => ?_) (fun h => ?_)) | refine zg ?_ | refine zi ?_)
        all_goals conv => whnf
        refine ⟨i + 1, by omega, ?_, by omega⟩
        (conv => whnf); exact zent
  · rw [List.take_of_length_le hge]
    repeat' ((conv => whnf); first | (with_reducible first | refine br_t ?_ | refine br_f ?_ | refine za ?_ | refine zg ?_ | refine zo ?_ | refine zb ?_ | refine zm ?_ | refine zc ?_ | refine ze ?_) | rw [List.length_map] | ((with_reducible refine bc_t ?_ ?_); (first | omega | decide)) | ((with_reducible refine bc_f ?_ ?_); (first | omega | decide)) | (with_reducible first | refine bc (fun h => ?_) (fun h => ?_) | refine zt ?_ | refine zf ?_ | refine br_i (fun h => ?_) (fun h => ?_)) | refine zg ?_ | refine zi ?_)
    all_goals conv => whnf
    all_goals rfl
end Go.Proofs.YtnhljlihchegjaaGreat

/- Fields: the reference's order is the sorted one. No conditions. -/
namespace Go.Proofs.YtnhljlihchegjaaGreat
open Go Go.RowKit Go.Sort Sx
theorem incr_nodup {l : List Pt} (h : incr l = true) : (l.map Pt.id).Nodup := by
  rw [List.nodup_iff_pairwise_ne, List.pairwise_map, List.pairwise_iff_getElem]
  intro i j hi hj hij
  have := incr_lt h j i hj hij
  omega
theorem srt_perm (n m : Int) (l : List Pt) : (srt n m l).Perm l := List.mergeSort_perm l _
theorem srt_len (n m : Int) (l : List Pt) : (srt n m l).length = l.length := List.length_mergeSort _
theorem srt_sorted (n m : Int) (l : List Pt) : (srt n m l).Pairwise fun x y => ¬ ldr n m y x := by
  have h := List.pairwise_mergeSort (le := fun x y => !decide (ldr n m y x)) (fun a b c h1 h2 => by
    simp at *
    unfold ldr at *
    omega) (fun a b => by
    simp only [Bool.or_eq_true, Bool.not_eq_true', decide_eq_false_iff_not]
    unfold ldr
    omega) l
  exact h.imp fun h => by simpa using h
theorem srt_ids {n m : Int} {l : List Pt} (h : incr l = true) {i j : Nat} (hi : i < (srt n m l).length) (hj : j < (srt n m l).length) (hne : i ≠ j) : (srt n m l)[i].id ≠ (srt n m l)[j].id := by
  have hN : ((srt n m l).map Pt.id).Nodup := ((srt_perm n m l).map Pt.id).nodup_iff.2 (incr_nodup h)
  intro e
  have := (List.getElem_inj (xs := (srt n m l).map Pt.id) (i := i) (j := j) (h₀ := by simpa using hi) (h₁ := by simpa using hj) hN).1 (by simpa using e)
  exact hne this
theorem rnk_srt {n m : Int} {l : List Pt} (h : incr l = true) {r : Nat} (hr : r < (srt n m l).length) : rnk l n m (srt n m l)[r] = r := by
  have hp := (srt_perm n m l).countP_eq (fun q => decide (q.id ≠ (srt n m l)[r].id ∧ ldr n m q (srt n m l)[r]))
  have hs := List.pairwise_iff_getElem.1 (srt_sorted n m l)
  have hi := fun i hi => srt_ids (n := n) (m := m) h (i := i) (j := r) hi hr
  unfold rnk
  rw [← hp]
  generalize srt n m l = s at *
  have e : s = s.take r ++ s[r] :: s.drop (r + 1) := by rw [← List.drop_eq_getElem_cons hr, List.take_append_drop]
  have c1 : (s.take r).countP (fun q => decide (q.id ≠ s[r].id ∧ ldr n m q s[r])) = r := by
    rw [List.countP_eq_length.2 (fun q hq => ?_), List.length_take]
    · omega
    · obtain ⟨j, hj, rfl⟩ := List.getElem_of_mem hq
      rw [List.length_take] at hj
      rw [List.getElem_take]
      have k1 := hs j r (by omega) hr (by omega)
      have k2 := hi j (by omega) (by omega)
      rw [decide_eq_true_eq]
      refine ⟨k2, ?_⟩
      unfold ldr at *
      omega
  have c2 : (s.drop (r + 1)).countP (fun q => decide (q.id ≠ s[r].id ∧ ldr n m q s[r])) = 0 := by
    rw [List.countP_eq_zero]
    intro q hq
    obtain ⟨j, hj, rfl⟩ := List.getElem_of_mem hq
    rw [List.length_drop] at hj
    rw [List.getElem_drop]
    have k1 := hs r (r + 1 + j) hr (by omega) (by omega)
    simp only [decide_eq_true_eq, not_and]
    exact fun _ => k1
  conv => lhs; arg 2; rw [e]
  rw [List.countP_append, List.countP_cons, c1, c2]
  simp
theorem rnk_lt {n m : Int} {l : List Pt} (h : incr l = true) {p : Pt} (hp : p ∈ l) : rnk l n m p < l.length := by
  obtain ⟨r, hr, rfl⟩ := List.getElem_of_mem ((srt_perm n m l).mem_iff.2 hp)
  rw [rnk_srt h hr, ← srt_len n m l]; exact hr
theorem srt_rnk {n m : Int} {l : List Pt} (h : incr l = true) {p : Pt} (hp : p ∈ l) : (srt n m l)[rnk l n m p]? = some p := by
  obtain ⟨r, hr, rfl⟩ := List.getElem_of_mem ((srt_perm n m l).mem_iff.2 hp)
  rw [rnk_srt h hr, List.getElem?_eq_getElem hr]
abbrev ints (l : List Int) : D := .list 1 (l.map fun i => [i64 i])
def ordV (l : List Pt) (n m : Int) : List Int := (srt n m l).map Pt.id
set_option maxHeartbeats 1000000 in
theorem rfOrdered_fn {l : List Pt} {n m : Int} (hl : ∀ p ∈ l, p.chk = 0) (hs : incr l = true) (hsz : l.length ≤ 1000000) : FnOK Tryz.prog 108 [fld l, rat n m] (.c (.one (ints (ordV l n m)))) := by
  refine fn_ok (by kernel_rfl) (ty_okK [10] [] [] []) Tryz.func108 rfl (fun _ _ => Tryz.call108 _ _) rfl ?_
  intro hw
  clear hw
  repeat' ((conv => whnf); first | (with_reducible first | refine br_t ?_ | refine br_f ?_ | refine za ?_ | refine zg ?_ | refine zo ?_ | refine zb ?_ | refine zm ?_ | refine zc ?_ | refine ze ?_) | rw [List.length_map] | ((with_reducible refine bc_t ?_ ?_); (first | omega | decide)) | ((with_reducible refine bc_f ?_ ?_); (first | omega | decide)) | (with_reducible first | refine bc (fun h => ?_) (fun h => ?_) | refine zt ?_ | refine zf ?_ | refine br_i (fun h => ?_) (fun h => ?_)) | refine zg ?_ | refine zi ?_)
  refine loop_J (by kernel_rfl) (ty_okK [10] [] [] []) (σ := Nat × List (List D)) (fun s => [(6, sV (.int .i64 s.1))]) (fun s => [(10, .row 1 s.2 0)]) (fun s => s.1 ≤ l.length ∧ s.2.length = l.length ∧ (∀ e ∈ s.2, e.length = 1) ∧ ∀ j (h : j < l.length), j < s.1 → s.2[rnk l n m l[j]]? = some [i64 l[j].id]) (fun s => l.length - s.1)
    (0, List.replicate l.length [i64 0]) ⟨Nat.zero_le _, by simp, fun e he => by simp at he; rw [he.2]; rfl, fun j _ h => absurd h (Nat.not_lt_zero _)⟩ ?_ ?_
  · (conv => whnf); exact zent
  rintro ⟨i, o⟩ ⟨h1, h2, h3, h4⟩
  simp only at h1 h2 h3 h4
  rcases Nat.lt_or_ge i l.length with hlt | hge
  · have hel := pts_get hlt
    have H := rfRanked_fn (n := n) (m := m) hl (hl _ (List.getElem_mem hlt))
    have hr := rnk_lt (n := n) (m := m) hs (List.getElem_mem hlt)
    generalize hrr : rnk l n m l[i] = r at *
    obtain ⟨e0, he0⟩ : ∃ e, o[r]? = some e := ⟨_, List.getElem?_eq_getElem (by omega)⟩
    have hlen0 : e0.length = 1 := h3 _ (List.mem_of_getElem? he0)
    match e0, hlen0 with
    | [z], _ =>
      have hel2 : o[((r : Nat) : Int).toNat]? = some [z] := by rw [Int.toNat_natCast]; exact he0
      repeat' ((conv => whnf); first | (with_reducible first | refine br_t ?_ | refine br_f ?_ | refine za ?_ | refine zg ?_ | refine zo ?_ | refine zb ?_ | refine zm ?_ | refine zc ?_ | refine ze ?_) | rw [List.length_map] | ((with_reducible refine bc_t ?_ ?_); (first | omega | decide)) | ((with_reducible refine bc_f ?_ ?_); (first | omega | decide)) | (with_reducible first | refine bc (fun h => ?_) (fun h => ?_) | refine zt ?_ | refine zf ?_ | refine br_i (fun h => ?_) (fun h => ?_)) | refine zg ?_ | refine zi ?_)
      all_goals conv => whnf
      refine ⟨(i + 1, o.set r [i64 l[i].id]), ⟨by show _ ≤ _; omega, by simpa using h2, fun e he => ?_, fun j hj hji => ?_⟩, ?_, by show _ - _ < _ - _; omega⟩
      · rcases List.mem_or_eq_of_mem_set he with h | h
        · exact h3 e h
        · rw [h]; rfl
      · rcases Nat.lt_or_ge j i with h | h
        · have hne : r ≠ rnk l n m l[j] := fun e => by
            have k1 := srt_rnk (n := n) (m := m) hs (List.getElem_mem hj)
            have k2 := srt_rnk (n := n) (m := m) hs (List.getElem_mem hlt)
            rw [hrr, e, k1] at k2
            injection k2 with k2
            have := incr_lt hs i j hlt h
            rw [k2] at this; omega
          show (o.set r _)[_]? = _
          rw [List.getElem?_set_ne hne]
          exact h4 j hj h
        · have : j = i := by simp only at hji; omega
          subst this
          show (o.set r _)[_]? = _
          rw [hrr, List.getElem?_set_self (by omega)]
      · (conv => whnf); exact zent
  · have e : o = (ordV l n m).map fun i => [i64 i] := by
      refine List.ext_getElem? fun r => ?_
      rcases Nat.lt_or_ge r l.length with h | h
      · have hr : r < (srt n m l).length := by rw [srt_len]; exact h
        obtain ⟨j, hj, e⟩ := List.getElem_of_mem ((srt_perm n m l).mem_iff.1 (List.getElem_mem hr))
        have := h4 j hj (by omega)
        rw [e, rnk_srt hs hr] at this
        rw [this, ordV, List.map_map, List.getElem?_map, List.getElem?_eq_getElem hr]
        rfl
      · rw [List.getElem?_eq_none (by omega), List.getElem?_eq_none (by simp [ordV, srt_len]; omega)]
    rw [e]
    repeat' ((conv => whnf); first | (with_reducible first | refine br_t ?_ | refine br_f ?_ | refine za ?_ | refine zg ?_ | refine zo ?_ | refine zb ?_ | refine zm ?_ | refine zc ?_ | refine ze ?_) | rw [List.length_map] | ((with_reducible refine bc_t ?_ ?_); (first | omega | decide)) | ((with_reducible refine bc_f ?_ ?_); (first | omega | decide)) | (with_reducible first | refine bc (fun h => ?_) (fun h => ?_) | refine zt ?_ | refine zf ?_ | refine br_i (fun h => ?_) (fun h => ?_)) | refine zg ?_ | refine zi ?_)
    all_goals conv => whnf
    all_goals rfl
end Go.Proofs.YtnhljlihchegjaaGreat

/- Fields: leader, order, finding, the reference's. No conditions. -/
namespace Go.Proofs.YtnhljlihchegjaaGreat
open Go Go.RowKit Go.Sort Sx
theorem tchk_ok {l : List Pt} {n m : Int} (h : tchk l n m = 0) : fchk l = 0 ∧ chk n m = 0 := by
  unfold tchk at h
  split at h
  · exact ⟨by assumption, h⟩
  · omega
theorem ints_get {l : List Int} {i : Nat} (h : i < l.length) : (l.map fun i => [i64 i])[((i : Nat) : Int).toNat]? = some [i64 l[i]] := by
  rw [Int.toNat_natCast, List.getElem?_map, List.getElem?_eq_getElem h]; rfl
def orderV (l : List Pt) (n m : Int) : List Int × Int := if tchk l n m = 0 then (ordV l n m, 0) else ([], tchk l n m)
abbrev retO (x : List Int × Int) : DV := .tup [.one (ints x.1), .one (i64 x.2)]
def outI (s : List Pt) (i : Nat) : List (List D) := (s.take i).map (fun p => [i64 p.id]) ++ List.replicate (s.length - i) [i64 0]
theorem outI_get {s : List Pt} {i : Nat} (h : i < s.length) : (outI s i)[((i : Nat) : Int).toNat]? = some [i64 0] := by
  rw [Int.toNat_natCast, outI, List.getElem?_append_right (by simp; omega), List.getElem?_replicate, if_pos (by simp; omega)]
theorem outI_set {s : List Pt} {i : Nat} (h : i < s.length) : (outI s i).set ((i : Nat) : Int).toNat [i64 s[i].id] = outI s (i + 1) := by
  rw [Int.toNat_natCast]
  unfold outI
  have hk : s.length - i = (s.length - (i + 1)) + 1 := by omega
  rw [List.take_succ_eq_append_getElem h, hk, List.replicate_succ, List.set_append_right _ _ (by simp; omega)]
  have h0 : i - ((s.take i).map fun p : Pt => [i64 p.id]).length = 0 := by simp; omega
  rw [h0, List.map_append, List.append_assoc]
  rfl
theorem outI_len {s : List Pt} {i : Nat} (h : i ≤ s.length) : (outI s i).length = s.length := by simp [outI]; omega
theorem fOrder_fn (l : List Pt) (n m : Int) : FnOK Tryz.prog 58 [fld l, rat n m] (retO (orderV l n m)) := by
  refine fn_ok (by kernel_rfl) (ty_okK [22] [] [] []) Tryz.func58 rfl (fun _ _ => Tryz.call58 _ _) rfl ?_
  intro hw
  clear hw
  have H := fsorted_fn l n m
  unfold orderV
  by_cases h : tchk l n m = 0
  · rw [if_pos h] at H ⊢
    obtain ⟨k1, k2, k3⟩ := fchk_ok (tchk_ok h).1
    have hl : (srt n m l).length = l.length := srt_len n m l
    have e : (ordV l n m).map (fun i => [i64 i]) = outI (srt n m l) (srt n m l).length := by simp [outI, ordV]
    generalize srt n m l = s at *
    repeat' ((conv => whnf); first | (with_reducible first | refine br_t ?_ | refine br_f ?_ | refine za ?_ | refine zg ?_ | refine zo ?_ | refine zb ?_ | refine zm ?_ | refine zc ?_ | refine ze ?_) | rw [List.length_map] | ((with_reducible refine bc_t ?_ ?_); (first | omega | decide)) | ((with_reducible refine bc_f ?_ ?_); (first | omega | decide)) | (with_reducible first | refine bc (fun h => ?_) (fun h => ?_) | refine zt ?_ | refine zf ?_ | refine br_i (fun h => ?_) (fun h => ?_)) | refine zg ?_ | refine zi ?_)
    refine loop_J (by kernel_rfl) (ty_okK [22] [] [] []) (σ := Nat) (fun i => [(25, sV (.int .i64 i))]) (fun i => [(22, .row 1 (outI s i) 0)]) (fun i => i ≤ s.length) (fun i => s.length - i) 0 (Nat.zero_le _) ?_ ?_
    · (conv => whnf); exact zent
    intro i hi
    have hol := outI_len hi
    rcases Nat.lt_or_ge i s.length with hlt | hge
    · have hel := pts_get hlt
      have hel2 := outI_get hlt
      repeat' ((conv => whnf); first | (with_reducible first | refine br_t ?_ | refine br_f ?_ | refine za ?_ | refine zg ?_ | refine zo ?_ | refine zb ?_ | refine zm ?_ | refine zc ?_ | refine ze ?_) | rw [List.length_map] | ((with_reducible refine bc_t ?_ ?_); (first | omega | decide)) | ((with_reducible refine bc_f ?_ ?_); (first | omega | decide)) | (with_reducible first | refine bc (fun h => ?_) (fun h => ?_) | refine zt ?_ | refine zf ?_ | refine br_i (fun h => ?_) (fun h => ?_)) | refine zg ?_ | refine zi ?_)
      all_goals conv => whnf
      refine ⟨i + 1, by omega, ?_, by omega⟩
      (conv => whnf); refine ⟨by repeat' (first | with_reducible exact zE0 | with_reducible refine zE1 ?_ ?_ | rfl | assumption | (exact congrArg (fun x => some (Blk.row 1 x 0)) (outI_set hlt)) | (refine ent_i ?_; (first | omega | (rw [IntWalk.i64_in _ (by omega)]; omega) | (simp; done))) | (refine ent_b ?_; (first | omega | (rw [IntWalk.i64_in _ (by omega)]; omega) | (simp; done)))), by repeat' (first | with_reducible exact zH0 | with_reducible refine zH1 ?_ ?_ | rfl | assumption | (exact congrArg (fun x => some (Blk.row 1 x 0)) (outI_set hlt))), rfl⟩
    · obtain rfl : i = s.length := by omega
      repeat' ((conv => whnf); first | (with_reducible first | refine br_t ?_ | refine br_f ?_ | refine za ?_ | refine zg ?_ | refine zo ?_ | refine zb ?_ | refine zm ?_ | refine zc ?_ | refine ze ?_) | rw [List.length_map] | ((with_reducible refine bc_t ?_ ?_); (first | omega | decide)) | ((with_reducible refine bc_f ?_ ?_); (first | omega | decide)) | (with_reducible first | refine bc (fun h => ?_) (fun h => ?_) | refine zt ?_ | refine zf ?_ | refine br_i (fun h => ?_) (fun h => ?_)) | refine zg ?_ | refine zi ?_)
      all_goals conv => whnf
      all_goals exact congrArg (fun x => DV.tup [.one (.list 1 x), .one (i64 0)]) e.symm
  · rw [if_neg h] at H ⊢
    generalize tchk l n m = z at *
    exact zw
def findV (l : List Pt) (id : Int) : Pt × Int := if fchk l = 0 then (if has l id then (l[pos l id]?.getD default, 0) else (⟨0, 0, 0⟩, 6)) else (⟨0, 0, 0⟩, fchk l)
abbrev retPt (x : Pt × Int) : DV := .tup [x.1.dc, .one (i64 x.2)]
theorem fFind_fn (l : List Pt) (id : Int) : FnOK Tryz.prog 39 [fld l, .one (i64 id)] (retPt (findV l id)) := by
  refine fn_ok (by kernel_rfl) ty_ok Tryz.func39 rfl (fun _ _ => Tryz.call39 _ _) rfl ?_
  intro hw
  clear hw
  have H := fplace_fn l id
  unfold findV
  unfold placeV at H
  by_cases h0 : fchk l = 0
  · obtain ⟨k1, k2, k3⟩ := fchk_ok h0
    rw [if_pos h0] at H ⊢
    cases hh : has l id
    · rw [hh, if_neg (by decide)] at H
      repeat' ((conv => whnf); first | (with_reducible first | refine br_t ?_ | refine br_f ?_ | refine za ?_ | refine zg ?_ | refine zo ?_ | refine zb ?_ | refine zm ?_ | refine zc ?_ | refine ze ?_) | rw [List.length_map] | ((with_reducible refine bc_t ?_ ?_); (first | omega | decide)) | ((with_reducible refine bc_f ?_ ?_); (first | omega | decide)) | (with_reducible first | refine bc (fun h => ?_) (fun h => ?_) | refine zt ?_ | refine zf ?_ | refine br_i (fun h => ?_) (fun h => ?_)) | refine zg ?_ | refine zi ?_)
      all_goals conv => whnf
      all_goals rfl
    · rw [hh, if_pos rfl] at H
      obtain ⟨hlt, _⟩ := (has_pos k3).1 hh
      have hel := pts_get hlt
      rw [if_pos rfl, List.getElem?_eq_getElem hlt]
      repeat' ((conv => whnf); first | (with_reducible first | refine br_t ?_ | refine br_f ?_ | refine za ?_ | refine zg ?_ | refine zo ?_ | refine zb ?_ | refine zm ?_ | refine zc ?_ | refine ze ?_) | rw [List.length_map] | ((with_reducible refine bc_t ?_ ?_); (first | omega | decide)) | ((with_reducible refine bc_f ?_ ?_); (first | omega | decide)) | (with_reducible first | refine bc (fun h => ?_) (fun h => ?_) | refine zt ?_ | refine zf ?_ | refine br_i (fun h => ?_) (fun h => ?_)) | refine zg ?_ | refine zi ?_)
      all_goals conv => whnf
      all_goals rfl
  · rw [if_neg h0] at H ⊢
    generalize fchk l = z at *
    exact zw
theorem at1_has {l : List Pt} {id : Int} (hs : incr l = true) : at1 l id 0 = if has l id then (pos l id : Int) else -1 := by
  obtain ⟨h1, h2⟩ := pos_spec (id := id) hs
  have h3 := has_pos (id := id) hs
  have hne : ∀ k (h : k < l.length), k < pos l id → l[k].id ≠ id := fun k h hk => by have := h1 k h hk; omega
  cases hh : has l id
  · rw [if_neg (by decide)]
    have hn : ∀ k (h : k < l.length), k < l.length → l[k].id ≠ id := fun k h _ e => by
      have : has l id = true := by unfold has; exact List.any_eq_true.2 ⟨_, List.getElem_mem h, by simpa using e⟩
      rw [hh] at this; cases this
    rw [at1_drop rfl (Nat.le_refl _) hn, List.drop_eq_nil_of_le (Nat.le_refl _), at1]
  · obtain ⟨hlt, he⟩ := h3.1 hh
    rw [if_pos rfl, at1_drop rfl (by omega) hne, List.drop_eq_getElem_cons hlt, at1, if_pos he]
end Go.Proofs.YtnhljlihchegjaaGreat

/- Fields: Change, and the reference's Change, Without, Take. No conditions. -/
namespace Go.Proofs.YtnhljlihchegjaaGreat
open Go Go.RowKit Go.Sort Sx
abbrev retFl (x : List Pt × Int) : DV := .tup [fld x.1, .one (i64 x.2)]
def changeV (l : List Pt) (p : Pt) : List Pt × Int := if fchk l = 0 then (if p.chk = 0 then (if has l p.id then (l.set (pos l p.id) p, 0) else ([], 6)) else ([], 8)) else ([], fchk l)
theorem fChange_fn (l : List Pt) (p : Pt) : FnOK Tryz.prog 104 [fld l, p.dc] (retFl (changeV l p)) := by
  have H1 := fCheck_fn l
  have H2 := kCheck_fn p.id p.a p.b
  have H3 := fplace_fn l p.id
  unfold placeV at H3
  unfold changeV
  by_cases h1 : fchk l = 0
  · obtain ⟨k1, k2, k3⟩ := fchk_ok h1
    rw [if_pos h1] at H3 ⊢
    rw [h1] at H1
    by_cases h2 : p.chk = 0
    · rw [if_pos h2]
      unfold Pt.chk at h2
      rw [h2] at H2
      cases hh : has l p.id
      · rw [hh, if_neg (by decide)] at H3
        refine fn_ok (by kernel_rfl) ty_ok Tryz.func104 rfl (fun _ _ => Tryz.call104 _ _) rfl ?_
        intro hw
        clear hw
        exact zw
      · rw [hh, if_pos rfl] at H3
        obtain ⟨hlt, _⟩ := (has_pos k3).1 hh
        have hel := pts_get hlt
        have H4 := clonePt_own (l.map Pt.c) (by simp; omega)
        rw [if_pos rfl]
        have hset : (l.map Pt.c).set ((pos l p.id : Nat) : Int).toNat p.c = (l.set (pos l p.id) p).map Pt.c := by rw [Int.toNat_natCast, List.map_set]
        refine fn_ok (by kernel_rfl) (ty_okK [36] [] [] []) Tryz.func104 rfl (fun _ _ => Tryz.call104 _ _) rfl ?_
        intro hw
        clear hw
        repeat' ((conv => whnf); first | (with_reducible first | refine br_t ?_ | refine br_f ?_ | refine za ?_ | refine zg ?_ | refine zo ?_ | refine zb ?_ | refine zm ?_ | refine zc ?_ | refine ze ?_) | rw [List.length_map] | ((with_reducible refine bc_t ?_ ?_); (first | omega | decide)) | ((with_reducible refine bc_f ?_ ?_); (first | omega | decide)) | (with_reducible first | refine bc (fun h => ?_) (fun h => ?_) | refine zt ?_ | refine zf ?_ | refine br_i (fun h => ?_) (fun h => ?_)) | refine zg ?_ | refine zi ?_)
        all_goals conv => whnf
        all_goals exact congrArg (fun x => DV.tup [.agg [.list 3 x], .one (i64 0)]) hset
    · rw [if_neg h2]
      have h8 : cpt p.id p.a p.b = 8 := (cpt_08 p.id p.a p.b).resolve_left h2
      rw [h8] at H2
      refine fn_ok (by kernel_rfl) ty_ok Tryz.func104 rfl (fun _ _ => Tryz.call104 _ _) rfl ?_
      intro hw
      clear hw
      exact zw
  · rw [if_neg h1]
    generalize fchk l = z at *
    refine fn_ok (by kernel_rfl) ty_ok Tryz.func104 rfl (fun _ _ => Tryz.call104 _ _) rfl ?_
    intro hw
    clear hw
    exact zw
theorem rfChange_fn (l : List Pt) (p : Pt) : FnOK Tryz.prog 144 [fld l, p.dc] (retFl (changeV l p)) := by
  have H1 := rfCheck_fn l
  have H2 := kkCheck_fn p.id p.a p.b
  have H3 := rfAt_fn l p.id
  unfold changeV
  by_cases h1 : fchk l = 0
  · obtain ⟨k1, k2, k3⟩ := fchk_ok h1
    rw [if_pos h1]
    rw [h1] at H1
    rw [at1_has k3] at H3
    by_cases h2 : p.chk = 0
    · rw [if_pos h2]
      unfold Pt.chk at h2
      rw [h2] at H2
      cases hh : has l p.id
      · rw [hh, if_neg (by decide)] at H3
        refine fn_ok (by kernel_rfl) ty_ok Tryz.func144 rfl (fun _ _ => Tryz.call144 _ _) rfl ?_
        intro hw
        clear hw
        exact zw
      · rw [hh, if_pos rfl] at H3
        obtain ⟨hlt, _⟩ := (has_pos k3).1 hh
        have hel := pts_get hlt
        have H4 := rfTwin_own l (by omega)
        rw [if_pos rfl]
        have hset : (l.map Pt.c).set ((pos l p.id : Nat) : Int).toNat p.c = (l.set (pos l p.id) p).map Pt.c := by rw [Int.toNat_natCast, List.map_set]
        refine fn_ok (by kernel_rfl) (ty_okK [27] [] [] []) Tryz.func144 rfl (fun _ _ => Tryz.call144 _ _) rfl ?_
        intro hw
        clear hw
        repeat' ((conv => whnf); first | (with_reducible first | refine br_t ?_ | refine br_f ?_ | refine za ?_ | refine zg ?_ | refine zo ?_ | refine zb ?_ | refine zm ?_ | refine zc ?_ | refine ze ?_) | rw [List.length_map] | ((with_reducible refine bc_t ?_ ?_); (first | omega | decide)) | ((with_reducible refine bc_f ?_ ?_); (first | omega | decide)) | (with_reducible first | refine bc (fun h => ?_) (fun h => ?_) | refine zt ?_ | refine zf ?_ | refine br_i (fun h => ?_) (fun h => ?_)) | refine zg ?_ | refine zi ?_)
        all_goals conv => whnf
        all_goals exact congrArg (fun x => DV.tup [.agg [.list 3 x], .one (i64 0)]) hset
    · rw [if_neg h2]
      have h8 : cpt p.id p.a p.b = 8 := (cpt_08 p.id p.a p.b).resolve_left h2
      rw [h8] at H2
      refine fn_ok (by kernel_rfl) ty_ok Tryz.func144 rfl (fun _ _ => Tryz.call144 _ _) rfl ?_
      intro hw
      clear hw
      exact zw
  · rw [if_neg h1]
    generalize fchk l = z at *
    refine fn_ok (by kernel_rfl) ty_ok Tryz.func144 rfl (fun _ _ => Tryz.call144 _ _) rfl ?_
    intro hw
    clear hw
    exact zw
def without (l : List Pt) (id : Int) : List Pt := l.filter fun p => decide (p.id ≠ id)
theorem rfWithout_fn (l : List Pt) (id : Int) (hl : l.length ≤ 1000000) : FnOK Tryz.prog 172 [fld l, .one (i64 id)] (.c (fld (without l id))) := by
  refine fn_ok (by kernel_rfl) (ty_okK [30] [] [] []) Tryz.func172 rfl (fun _ _ => Tryz.call172 _ _) rfl ?_
  intro hw
  clear hw
  repeat' ((conv => whnf); first | (with_reducible first | refine br_t ?_ | refine br_f ?_ | refine za ?_ | refine zg ?_ | refine zo ?_ | refine zb ?_ | refine zm ?_ | refine zc ?_ | refine ze ?_) | rw [List.length_map] | ((with_reducible refine bc_t ?_ ?_); (first | omega | decide)) | ((with_reducible refine bc_f ?_ ?_); (first | omega | decide)) | (with_reducible first | refine bc (fun h => ?_) (fun h => ?_) | refine zt ?_ | refine zf ?_ | refine br_i (fun h => ?_) (fun h => ?_)) | refine zg ?_ | refine zi ?_)
  refine loop_nameH 5 0 100 rfl rfl rfl ?_
  refine loop_J (by kernel_rfl) (ty_okK [30] [] [] []) (σ := Nat) (fun i => [(6, sV (.int .i64 i))]) (fun i => [(5, .own [.osl 100 0]), (100, .row 3 ((without (l.take i) id).map Pt.c) 0)]) (fun i => i ≤ l.length) (fun i => l.length - i) 0 (Nat.zero_le _) ?_ ?_
  · (conv => whnf); exact zent
  intro i hi
  have hlen : (without (l.take i) id).length ≤ i := by unfold without; refine Nat.le_trans (List.length_filter_le ..) ?_; simp; omega
  rcases Nat.lt_or_ge i l.length with hlt | hge
  · have hel := pts_get hlt
    have hN : without (l.take (i + 1)) id = without (l.take i) id ++ if l[i].id ≠ id then [l[i]] else [] := by
      unfold without
      rw [List.take_succ_eq_append_getElem hlt, List.filter_append]
      by_cases h : l[i].id = id <;> simp [h]
    generalize without (l.take i) id = o at *
    have ho : (o.map Pt.c).length = o.length := List.length_map ..
    by_cases hc : l[i].id = id
    · rw [if_neg (by simp [hc]), List.append_nil] at hN
      repeat' ((conv => whnf); first | (with_reducible first | refine br_t ?_ | refine br_f ?_ | refine za ?_ | refine zg ?_ | refine zo ?_ | refine zb ?_ | refine zm ?_ | refine zc ?_ | refine ze ?_) | rw [List.length_map] | ((with_reducible refine bc_t ?_ ?_); (first | omega | decide)) | ((with_reducible refine bc_f ?_ ?_); (first | omega | decide)) | (with_reducible first | refine bc (fun h => ?_) (fun h => ?_) | refine zt ?_ | refine zf ?_ | refine br_i (fun h => ?_) (fun h => ?_)) | refine zg ?_ | refine zi ?_)
      all_goals conv => whnf
      refine ⟨i + 1, by omega, ?_, by omega⟩
      (conv => whnf); refine ⟨by repeat' (first | with_reducible exact zE0 | with_reducible refine zE1 ?_ ?_ | rfl | assumption | (exact congrArg (fun x => some (Blk.row 3 (List.map Pt.c x) 0)) hN.symm) | (refine ent_i ?_; (first | omega | (rw [IntWalk.i64_in _ (by omega)]; omega) | (simp; done))) | (refine ent_b ?_; (first | omega | (rw [IntWalk.i64_in _ (by omega)]; omega) | (simp; done)))), by repeat' (first | with_reducible exact zH0 | with_reducible refine zH1 ?_ ?_ | rfl | assumption | (exact congrArg (fun x => some (Blk.row 3 (List.map Pt.c x) 0)) hN.symm)), rfl⟩
    · rw [if_pos hc] at hN
      have ha : o.map Pt.c ++ [l[i].c] = (without (l.take (i + 1)) id).map Pt.c := by rw [hN, List.map_append]; rfl
      repeat' ((conv => whnf); first | (with_reducible first | refine br_t ?_ | refine br_f ?_ | refine za ?_ | refine zg ?_ | refine zo ?_ | refine zb ?_ | refine zm ?_ | refine zc ?_ | refine ze ?_) | rw [List.length_map] | ((with_reducible refine bc_t ?_ ?_); (first | omega | decide)) | ((with_reducible refine bc_f ?_ ?_); (first | omega | decide)) | (with_reducible first | refine bc (fun h => ?_) (fun h => ?_) | refine zt ?_ | refine zf ?_ | refine br_i (fun h => ?_) (fun h => ?_)) | refine zg ?_ | refine zi ?_)
      all_goals conv => whnf
      refine ⟨i + 1, by omega, ?_, by omega⟩
      (conv => whnf); refine ⟨by repeat' (first | with_reducible exact zE0 | with_reducible refine zE1 ?_ ?_ | rfl | assumption | (exact congrArg (fun x => some (Blk.row 3 x 0)) ha) | (refine ent_i ?_; (first | omega | (rw [IntWalk.i64_in _ (by omega)]; omega) | (simp; done))) | (refine ent_b ?_; (first | omega | (rw [IntWalk.i64_in _ (by omega)]; omega) | (simp; done)))), by repeat' (first | with_reducible exact zH0 | with_reducible refine zH1 ?_ ?_ | rfl | assumption | (exact congrArg (fun x => some (Blk.row 3 x 0)) ha)), rfl⟩
  · rw [List.take_of_length_le hge]
    repeat' ((conv => whnf); first | (with_reducible first | refine br_t ?_ | refine br_f ?_ | refine za ?_ | refine zg ?_ | refine zo ?_ | refine zb ?_ | refine zm ?_ | refine zc ?_ | refine ze ?_) | rw [List.length_map] | ((with_reducible refine bc_t ?_ ?_); (first | omega | decide)) | ((with_reducible refine bc_f ?_ ?_); (first | omega | decide)) | (with_reducible first | refine bc (fun h => ?_) (fun h => ?_) | refine zt ?_ | refine zf ?_ | refine br_i (fun h => ?_) (fun h => ?_)) | refine zg ?_ | refine zi ?_)
    all_goals conv => whnf
    all_goals rfl
def takeV (l : List Pt) (id : Int) : List Pt × Int := if fchk l = 0 then (if has l id then (without l id, 0) else ([], 6)) else ([], fchk l)
theorem rfTake_fn (l : List Pt) (id : Int) : FnOK Tryz.prog 143 [fld l, .one (i64 id)] (retFl (takeV l id)) := by
  have H1 := rfCheck_fn l
  have H3 := rfAt_fn l id
  unfold takeV
  by_cases h1 : fchk l = 0
  · obtain ⟨k1, k2, k3⟩ := fchk_ok h1
    rw [if_pos h1]
    rw [h1] at H1
    rw [at1_has k3] at H3
    have H4 := rfWithout_fn l id (by omega)
    cases hh : has l id
    · rw [hh, if_neg (by decide)] at H3
      refine fn_ok (by kernel_rfl) ty_ok Tryz.func143 rfl (fun _ _ => Tryz.call143 _ _) rfl ?_
      intro hw
      clear hw
      exact zw
    · rw [hh, if_pos rfl] at H3
      rw [if_pos rfl]
      refine fn_ok (by kernel_rfl) ty_ok Tryz.func143 rfl (fun _ _ => Tryz.call143 _ _) rfl ?_
      intro hw
      clear hw
      exact zw
  · rw [if_neg h1]
    generalize fchk l = z at *
    refine fn_ok (by kernel_rfl) ty_ok Tryz.func143 rfl (fun _ _ => Tryz.call143 _ _) rfl ?_
    intro hw
    clear hw
    exact zw
end Go.Proofs.YtnhljlihchegjaaGreat

/- Fields: the reference's Put. No conditions. -/
namespace Go.Proofs.YtnhljlihchegjaaGreat
open Go Go.RowKit Go.Sort Sx
def insP (l : List Pt) (p : Pt) : List Pt := l.take (pos l p.id) ++ p :: l.drop (pos l p.id)
def putV (l : List Pt) (p : Pt) : List Pt × Int := if fchk l = 0 then (if p.chk = 0 then (if has l p.id then ([], 14) else if l.length = 64 then ([], 18) else (insP l p, 0)) else ([], 8)) else ([], fchk l)
def outP (l : List Pt) (p : Pt) (k i : Nat) : List Pt := if i ≤ k then l.take i else l.take k ++ p :: (l.take i).drop k
theorem outP_succ {l : List Pt} {p : Pt} {k i : Nat} (hk : k ≤ l.length) (hi : i < l.length) (hne : i ≠ k) : outP l p k i ++ [l[i]] = outP l p k (i + 1) := by
  unfold outP
  rcases Nat.lt_or_ge i k with h | h
  · rw [if_pos (by omega), if_pos (by omega), List.take_succ_eq_append_getElem hi]
  · rw [if_neg (by omega), if_neg (by omega), List.take_succ_eq_append_getElem hi, List.drop_append_of_le_length (by simp; omega)]
    simp
theorem outP_mid {l : List Pt} {p : Pt} {k : Nat} (hk : k < l.length) : outP l p k k ++ [p] ++ [l[k]] = outP l p k (k + 1) := by
  unfold outP
  rw [if_pos (Nat.le_refl _), if_neg (by omega), List.take_succ_eq_append_getElem hk, List.drop_append_of_le_length (by simp; omega)]
  simp
theorem outP_len (l : List Pt) (p : Pt) (k i : Nat) : (outP l p k i).length ≤ l.length + 1 := by
  unfold outP
  split
  · simp; omega
  · simp; omega
set_option maxHeartbeats 2000000 in
theorem rfPut_fn (l : List Pt) (p : Pt) : FnOK Tryz.prog 142 [fld l, p.dc] (retFl (putV l p)) := by
  have H1 := rfCheck_fn l
  have H2 := kkCheck_fn p.id p.a p.b
  have H3 := rfAt_fn l p.id
  unfold putV
  by_cases h1 : fchk l = 0
  · obtain ⟨k1, k2, k3⟩ := fchk_ok h1
    rw [if_pos h1]
    rw [h1] at H1
    rw [at1_has k3] at H3
    by_cases h2 : p.chk = 0
    · rw [if_pos h2]
      unfold Pt.chk at h2
      rw [h2] at H2
      cases hh : has l p.id
      · rw [hh, if_neg (by decide)] at H3
        rw [if_neg (by decide)]
        by_cases h64 : l.length = 64
        · rw [if_pos h64]
          refine fn_ok (by kernel_rfl) ty_ok Tryz.func142 rfl (fun _ _ => Tryz.call142 _ _) rfl ?_
          intro hw
          clear hw
          repeat' ((conv => whnf); first | (with_reducible first | refine br_t ?_ | refine br_f ?_ | refine za ?_ | refine zg ?_ | refine zo ?_ | refine zb ?_ | refine zm ?_ | refine zc ?_ | refine ze ?_) | rw [List.length_map] | ((with_reducible refine bc_t ?_ ?_); (first | omega | decide)) | ((with_reducible refine bc_f ?_ ?_); (first | omega | decide)) | (with_reducible first | refine bc (fun h => ?_) (fun h => ?_) | refine zt ?_ | refine zf ?_ | refine br_i (fun h => ?_) (fun h => ?_)) | refine zg ?_ | refine zi ?_)
          all_goals conv => whnf
          all_goals rfl
        · rw [if_neg h64]
          obtain ⟨s1, s2⟩ := pos_spec (id := p.id) k3
          have hple := pos_le l p.id
          have hgt : ∀ j (h : j < l.length), pos l p.id ≤ j → p.id < l[j].id := fun j h hj => by
            have := s2 j h hj
            have hne : l[j].id ≠ p.id := fun e => by
              have : has l p.id = true := by unfold has; exact List.any_eq_true.2 ⟨_, List.getElem_mem h, by simpa using e⟩
              rw [hh] at this; cases this
            omega
          unfold insP
          generalize pos l p.id = k at *
          have hl := outP_len l p k
          refine fn_ok (by kernel_rfl) (ty_okK [55, 65, 73] [] [] []) Tryz.func142 rfl (fun _ _ => Tryz.call142 _ _) rfl ?_
          intro hw
          clear hw
          repeat' ((conv => whnf); first | (with_reducible first | refine br_t ?_ | refine br_f ?_ | refine za ?_ | refine zg ?_ | refine zo ?_ | refine zb ?_ | refine zm ?_ | refine zc ?_ | refine ze ?_) | rw [List.length_map] | ((with_reducible refine bc_t ?_ ?_); (first | omega | decide)) | ((with_reducible refine bc_f ?_ ?_); (first | omega | decide)) | (with_reducible first | refine bc (fun h => ?_) (fun h => ?_) | refine zt ?_ | refine zf ?_ | refine br_i (fun h => ?_) (fun h => ?_)) | refine zg ?_ | refine zi ?_)
          refine loop_nameH 7 0 100 rfl rfl rfl ?_
          refine loop_J (by kernel_rfl) (ty_okK [55, 65, 73] [] [] []) (σ := Nat) (fun i => [(9, sV (.int .i64 i)), (8, sV (.bool (decide (k < i))))]) (fun i => [(7, .own [.osl 100 0]), (100, .row 3 ((outP l p k i).map Pt.c) 0)]) (fun i => i ≤ l.length) (fun i => l.length - i) 0 (Nat.zero_le _) ?_ ?_
          · (conv => whnf); refine ⟨by repeat' (first | with_reducible exact zE0 | with_reducible refine zE1 ?_ ?_ | rfl | assumption | (first | exact congrArg (fun x => some (sV (.bool x))) (decide_eq_false (Nat.not_lt_zero _)).symm | (simp [outP]; done) | (unfold outP; rw [if_pos (Nat.zero_le _)]; rfl)) | (refine ent_i ?_; (first | omega | (rw [IntWalk.i64_in _ (by omega)]; omega) | (simp; done))) | (refine ent_b ?_; (first | omega | (rw [IntWalk.i64_in _ (by omega)]; omega) | (simp; done)))), by repeat' (first | with_reducible exact zH0 | with_reducible refine zH1 ?_ ?_ | rfl | assumption | (first | exact congrArg (fun x => some (sV (.bool x))) (decide_eq_false (Nat.not_lt_zero _)).symm | (simp [outP]; done) | (unfold outP; rw [if_pos (Nat.zero_le _)]; rfl))), rfl⟩
          intro i hi
          have hli := hl i
          rcases Nat.lt_or_ge i l.length with hlt | hge
          · have hel := pts_get hlt
            have hoi : ((outP l p k i).map Pt.c).length = (outP l p k i).length := List.length_map ..
            rcases Nat.lt_trichotomy i k with h | h | h
            · have hs := outP_succ (p := p) hple hlt (by omega)
              have hid := s1 i hlt h
              have ha : (outP l p k i).map Pt.c ++ [l[i].c] = (outP l p k (i + 1)).map Pt.c := by rw [← hs, List.map_append]; rfl
              rw [show decide (k < i) = false from decide_eq_false (by omega)]
              repeat' ((conv => whnf); first | (with_reducible first | refine br_t ?_ | refine br_f ?_ | refine za ?_ | refine zg ?_ | refine zo ?_ | refine zb ?_ | refine zm ?_ | refine zc ?_ | refine ze ?_) | rw [List.length_map] | ((with_reducible refine bc_t ?_ ?_); (first | omega | decide)) | ((with_reducible refine bc_f ?_ ?_); (first | omega | decide)) | (with_reducible first | refine bc (fun h => ?_) (fun h => ?_) | refine zt ?_ | refine zf ?_ | refine br_i (fun h => ?_) (fun h => ?_)) | refine zg ?_ | refine zi ?_)
              all_goals conv => whnf
              refine ⟨i + 1, by omega, ?_, by omega⟩
              (conv => whnf); refine ⟨by repeat' (first | with_reducible exact zE0 | with_reducible refine zE1 ?_ ?_ | rfl | assumption | (first | exact congrArg (fun x => some (Blk.row 3 x 0)) ha | exact congrArg (fun x => some (sV (.bool x))) (decide_eq_false (by omega)).symm) | (refine ent_i ?_; (first | omega | (rw [IntWalk.i64_in _ (by omega)]; omega) | (simp; done))) | (refine ent_b ?_; (first | omega | (rw [IntWalk.i64_in _ (by omega)]; omega) | (simp; done)))), by repeat' (first | with_reducible exact zH0 | with_reducible refine zH1 ?_ ?_ | rfl | assumption | (first | exact congrArg (fun x => some (Blk.row 3 x 0)) ha | exact congrArg (fun x => some (sV (.bool x))) (decide_eq_false (by omega)).symm)), rfl⟩
            · subst h
              have hs := outP_mid (p := p) hlt
              have hid := hgt i hlt (Nat.le_refl _)
              have ha : (outP l p i i).map Pt.c ++ [p.c] ++ [l[i].c] = (outP l p i (i + 1)).map Pt.c := by rw [← hs, List.map_append, List.map_append]; rfl
              rw [show decide (i < i) = false from decide_eq_false (by omega)]
              repeat' ((conv => whnf); first | (with_reducible first | refine br_t ?_ | refine br_f ?_ | refine za ?_ | refine zg ?_ | refine zo ?_ | refine zb ?_ | refine zm ?_ | refine zc ?_ | refine ze ?_) | rw [List.length_map] | ((with_reducible refine bc_t ?_ ?_); (first | omega | decide)) | ((with_reducible refine bc_f ?_ ?_); (first | omega | decide)) | (with_reducible first | refine bc (fun h => ?_) (fun h => ?_) | refine zt ?_ | refine zf ?_ | refine br_i (fun h => ?_) (fun h => ?_)) | refine zg ?_ | refine zi ?_)
              all_goals conv => whnf
              refine ⟨i + 1, by omega, ?_, by omega⟩
              (conv => whnf); refine ⟨by repeat' (first | with_reducible exact zE0 | with_reducible refine zE1 ?_ ?_ | rfl | assumption | (first | exact congrArg (fun x => some (Blk.row 3 x 0)) ha | exact congrArg (fun x => some (sV (.bool x))) (decide_eq_true (by omega)).symm) | (refine ent_i ?_; (first | omega | (rw [IntWalk.i64_in _ (by omega)]; omega) | (simp; done))) | (refine ent_b ?_; (first | omega | (rw [IntWalk.i64_in _ (by omega)]; omega) | (simp; done)))), by repeat' (first | with_reducible exact zH0 | with_reducible refine zH1 ?_ ?_ | rfl | assumption | (first | exact congrArg (fun x => some (Blk.row 3 x 0)) ha | exact congrArg (fun x => some (sV (.bool x))) (decide_eq_true (by omega)).symm)), rfl⟩
            · have hs := outP_succ (p := p) hple hlt (by omega)
              have ha : (outP l p k i).map Pt.c ++ [l[i].c] = (outP l p k (i + 1)).map Pt.c := by rw [← hs, List.map_append]; rfl
              rw [show decide (k < i) = true from decide_eq_true (by omega)]
              repeat' ((conv => whnf); first | (with_reducible first | refine br_t ?_ | refine br_f ?_ | refine za ?_ | refine zg ?_ | refine zo ?_ | refine zb ?_ | refine zm ?_ | refine zc ?_ | refine ze ?_) | rw [List.length_map] | ((with_reducible refine bc_t ?_ ?_); (first | omega | decide)) | ((with_reducible refine bc_f ?_ ?_); (first | omega | decide)) | (with_reducible first | refine bc (fun h => ?_) (fun h => ?_) | refine zt ?_ | refine zf ?_ | refine br_i (fun h => ?_) (fun h => ?_)) | refine zg ?_ | refine zi ?_)
              all_goals conv => whnf
              refine ⟨i + 1, by omega, ?_, by omega⟩
              (conv => whnf); refine ⟨by repeat' (first | with_reducible exact zE0 | with_reducible refine zE1 ?_ ?_ | rfl | assumption | (first | exact congrArg (fun x => some (Blk.row 3 x 0)) ha | exact congrArg (fun x => some (sV (.bool x))) (decide_eq_true (by omega)).symm) | (refine ent_i ?_; (first | omega | (rw [IntWalk.i64_in _ (by omega)]; omega) | (simp; done))) | (refine ent_b ?_; (first | omega | (rw [IntWalk.i64_in _ (by omega)]; omega) | (simp; done)))), by repeat' (first | with_reducible exact zH0 | with_reducible refine zH1 ?_ ?_ | rfl | assumption | (first | exact congrArg (fun x => some (Blk.row 3 x 0)) ha | exact congrArg (fun x => some (sV (.bool x))) (decide_eq_true (by omega)).symm)), rfl⟩
          · obtain rfl : i = l.length := by omega
            have hoi : ((outP l p k l.length).map Pt.c).length = (outP l p k l.length).length := List.length_map ..
            by_cases hk : k < l.length
            · have e : outP l p k l.length = l.take k ++ p :: l.drop k := by unfold outP; rw [if_neg (by omega), List.take_length]
              rw [decide_eq_true hk, e]
              repeat' ((conv => whnf); first | (with_reducible first | refine br_t ?_ | refine br_f ?_ | refine za ?_ | refine zg ?_ | refine zo ?_ | refine zb ?_ | refine zm ?_ | refine zc ?_ | refine ze ?_) | rw [List.length_map] | ((with_reducible refine bc_t ?_ ?_); (first | omega | decide)) | ((with_reducible refine bc_f ?_ ?_); (first | omega | decide)) | (with_reducible first | refine bc (fun h => ?_) (fun h => ?_) | refine zt ?_ | refine zf ?_ | refine br_i (fun h => ?_) (fun h => ?_)) | refine zg ?_ | refine zi ?_)
              all_goals conv => whnf
              all_goals rfl
            · have hke : k = l.length := by omega
              have e : (outP l p k l.length).map Pt.c ++ [p.c] = (l.take k ++ p :: l.drop k).map Pt.c := by unfold outP; rw [if_pos (by omega), hke]; simp
              rw [decide_eq_false hk]
              repeat' ((conv => whnf); first | (with_reducible first | refine br_t ?_ | refine br_f ?_ | refine za ?_ | refine zg ?_ | refine zo ?_ | refine zb ?_ | refine zm ?_ | refine zc ?_ | refine ze ?_) | rw [List.length_map] | ((with_reducible refine bc_t ?_ ?_); (first | omega | decide)) | ((with_reducible refine bc_f ?_ ?_); (first | omega | decide)) | (with_reducible first | refine bc (fun h => ?_) (fun h => ?_) | refine zt ?_ | refine zf ?_ | refine br_i (fun h => ?_) (fun h => ?_)) | refine zg ?_ | refine zi ?_)
              all_goals conv => whnf
              all_goals exact congrArg (fun x => DV.tup [.agg [.list 3 x], .one (i64 0)]) e
      · rw [hh, if_pos rfl] at H3
        rw [if_pos rfl]
        refine fn_ok (by kernel_rfl) ty_ok Tryz.func142 rfl (fun _ _ => Tryz.call142 _ _) rfl ?_
        intro hw
        clear hw
        exact zw
    · rw [if_neg h2]
      have h8 : cpt p.id p.a p.b = 8 := (cpt_08 p.id p.a p.b).resolve_left h2
      rw [h8] at H2
      refine fn_ok (by kernel_rfl) ty_ok Tryz.func142 rfl (fun _ _ => Tryz.call142 _ _) rfl ?_
      intro hw
      clear hw
      exact zw
  · rw [if_neg h1]
    generalize fchk l = z at *
    refine fn_ok (by kernel_rfl) ty_ok Tryz.func142 rfl (fun _ _ => Tryz.call142 _ _) rfl ?_
    intro hw
    clear hw
    exact zw
end Go.Proofs.YtnhljlihchegjaaGreat
