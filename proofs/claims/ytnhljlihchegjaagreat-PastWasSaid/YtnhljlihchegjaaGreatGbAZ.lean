import Derived.Test.YtnhljlihchegjaaGreatGbAY
import Derived.Test.YtnhljlihchegjaaGreatGbAS
set_option linter.all false
/- Runs of asks. No conditions. -/
namespace Go.Proofs.YtnhljlihchegjaaGreat
open Go Go.RowKit Go.Sort Sx
def runs : Md → List Ak → Md × List Rp
  | m, [] => (m, [])
  | m, a :: l => ((runs (askV m a).1 l).1, (askV m a).2 :: (runs (askV m a).1 l).2)
theorem runs_append : ∀ (m : Md) (l r : List Ak), runs m (l ++ r) = ((runs (runs m l).1 r).1, (runs m l).2 ++ (runs (runs m l).1 r).2)
  | m, [], r => rfl
  | m, a :: l, r => by
    simp only [List.cons_append, runs, runs_append (askV m a).1 l r]
theorem runs_snoc (m : Md) (l : List Ak) (a : Ak) : runs m (l ++ [a]) = ((askV (runs m l).1 a).1, (runs m l).2 ++ [(askV (runs m l).1 a).2]) := by
  rw [runs_append]; rfl
theorem runs_ok : ∀ {m : Md} (l : List Ak), mchk m = 0 → mchk (runs m l).1 = 0
  | _, [], h => h
  | _, a :: l, h => runs_ok l (askV_ok h a)
theorem runs_len : ∀ (m : Md) (l : List Ak), (runs m l).2.length = l.length
  | _, [] => rfl
  | m, a :: l => by simp only [runs, List.length_cons, runs_len]
theorem runs_succ {m : Md} {l : List Ak} {i : Nat} (h : i < l.length) : runs m (l.take (i + 1)) = ((askV (runs m (l.take i)).1 l[i]).1, (runs m (l.take i)).2 ++ [(askV (runs m (l.take i)).1 l[i]).2]) := by
  rw [List.take_succ_eq_append_getElem h, runs_snoc]
def runV (m : Md) (l : List Ak) : Md × List Rp × Int := if mchk m = 0 then (if 120 < l.length then (md0, [], 4) else ((runs m l).1, (runs m l).2, 0)) else (md0, [], 8)
abbrev retR (x : Md × List Rp × Int) : DV := .tup [x.1.dc, .one (rps x.2.1), .one (i64 x.2.2)]
theorem oRun_fn (m : Md) (l : List Ak) : FnOK Tryz.prog 28 [m.dc, .one (aks l)] (retR (runV m l)) := by
  have H := oCheck_fn m
  unfold runV
  by_cases h : mchk m = 0
  · rw [if_pos h]
    rw [h] at H
    obtain ⟨g1, g2⟩ := mchk_ok h
    obtain ⟨k1, k2, k3⟩ := fchk_ok g2
    have HC := ok_of_own (clonePt_own (m.l.map Pt.c) (by simp; omega))
    by_cases h1 : 120 < l.length
    · rw [if_pos h1]
      refine fn_ok (by kernel_rfl) (ty_okK [9, 48] [] [] []) Tryz.func28 rfl (fun _ _ => Tryz.call28 _ _) rfl ?_
      intro hw
      simp only [WDCs, WDC, WDs] at hw
      have w1 := wd_aks hw.2.1
      clear hw
      repeat' ((conv => whnf); first | (with_reducible first | refine br_t ?_ | refine br_f ?_ | refine za ?_ | refine zg ?_ | refine zo ?_ | refine zb ?_ | refine zm ?_ | refine zc ?_ | refine ze ?_) | rw [List.length_map] | ((with_reducible refine bc_t ?_ ?_); (first | omega | decide)) | ((with_reducible refine bc_f ?_ ?_); (first | omega | decide)) | (with_reducible first | refine bc (fun h => ?_) (fun h => ?_) | refine zt ?_ | refine zf ?_ | refine br_i (fun h => ?_) (fun h => ?_)) | refine zg ?_ | refine zi ?_)
      all_goals conv => whnf
      all_goals rfl
    · rw [if_neg h1]
      refine fn_ok (by kernel_rfl) (ty_okK [9, 48] [] [] []) Tryz.func28 rfl (fun _ _ => Tryz.call28 _ _) rfl ?_
      intro hw
      clear hw
      repeat' ((conv => whnf); first | (with_reducible first | refine br_t ?_ | refine br_f ?_ | refine za ?_ | refine zg ?_ | refine zo ?_ | refine zb ?_ | refine zm ?_ | refine zc ?_ | refine ze ?_) | rw [List.length_map] | ((with_reducible refine bc_t ?_ ?_); (first | omega | decide)) | ((with_reducible refine bc_f ?_ ?_); (first | omega | decide)) | (with_reducible first | refine bc (fun h => ?_) (fun h => ?_) | refine zt ?_ | refine zf ?_ | refine br_i (fun h => ?_) (fun h => ?_)) | refine zg ?_ | refine zi ?_)
      refine loop_J (by kernel_rfl) (ty_okK [9, 48] [] [] []) (σ := Nat × Md × List Rp) (fun s => [(34, sV (.int .i64 s.1)), (9, .c (.at (.osl 9 0)))]) (fun s => [(8, .own [.d (i64 s.2.1.n), .d (i64 s.2.1.d), .d (pts s.2.1.l)]), (9, .row 6 (s.2.2.map Rp.c) 0)]) (fun s => s.1 ≤ l.length ∧ mchk s.2.1 = 0 ∧ runs m (l.take s.1) = s.2) (fun s => l.length - s.1) (0, m, []) ⟨by omega, h, rfl⟩ ?_ ?_
      · (conv => whnf); exact zent
      rintro ⟨i, u, o⟩ ⟨hi, hu, hI⟩
      dsimp only at hi hu hI
      have hol : (o.map Rp.c).length = o.length := List.length_map ..
      have hoi : o.length = (l.take i).length := by have := runs_len m (l.take i); rw [hI] at this; exact this
      rw [List.length_take] at hoi
      rcases Nat.lt_or_ge i l.length with hlt | hge
      · have hel := aks_get hlt
        have HA := oask_fn hu l[i]
        have hn := runs_succ (m := m) hlt
        have hv := askV_ok hu l[i]
        rw [hI] at hn
        dsimp only at hn
        generalize askV u l[i] = x at *
        obtain ⟨y, r⟩ := x
        dsimp only at hn hv
        simp only [retA] at HA
        have hs : o.map Rp.c ++ [[i64 r.e, i64 r.i, i64 r.j, i64 r.n, i64 r.d, mts r.ms]] = (o ++ [r]).map Rp.c := by rw [List.map_append]; rfl
        generalize l[i] = a at *
        repeat' ((conv => whnf); first | (with_reducible first | refine br_t ?_ | refine br_f ?_ | refine za ?_ | refine zg ?_ | refine zo ?_ | refine zb ?_ | refine zm ?_ | refine zc ?_ | refine ze ?_) | rw [hol] | rw [List.length_map] | ((with_reducible refine bc_t ?_ ?_); (first | omega | decide)) | ((with_reducible refine bc_f ?_ ?_); (first | omega | decide)) | (with_reducible first | refine bc (fun h => ?_) (fun h => ?_) | refine zt ?_ | refine zf ?_ | refine br_i (fun h => ?_) (fun h => ?_)) | refine zg ?_ | refine zi ?_)
        all_goals conv => whnf
        refine ⟨(i + 1, y, o ++ [r]), ⟨by omega, hv, hn⟩, ?_, by simp only; omega⟩
        (conv => whnf); refine ⟨by repeat' (first | with_reducible exact zE0 | with_reducible refine zE1 ?_ ?_ | rfl | assumption | ((exact congrArg (fun x => some (Blk.row 6 x 0)) hs)) | (refine ent_i ?_; (first | omega | (rw [IntWalk.i64_in _ (by omega)]; omega) | (simp; done))) | (refine ent_b ?_; (first | omega | (rw [IntWalk.i64_in _ (by omega)]; omega) | (simp; done)))), by repeat' (first | with_reducible exact zH0 | with_reducible refine zH1 ?_ ?_ | rfl | assumption | ((exact congrArg (fun x => some (Blk.row 6 x 0)) hs))), rfl⟩
      · obtain rfl : i = l.length := by omega
        rw [List.take_of_length_le (Nat.le_refl _)] at hI
        rw [hI]
        repeat' ((conv => whnf); first | (with_reducible first | refine br_t ?_ | refine br_f ?_ | refine za ?_ | refine zg ?_ | refine zo ?_ | refine zb ?_ | refine zm ?_ | refine zc ?_ | refine ze ?_) | rw [hol] | rw [List.length_map] | ((with_reducible refine bc_t ?_ ?_); (first | omega | decide)) | ((with_reducible refine bc_f ?_ ?_); (first | omega | decide)) | (with_reducible first | refine bc (fun h => ?_) (fun h => ?_) | refine zt ?_ | refine zf ?_ | refine br_i (fun h => ?_) (fun h => ?_)) | refine zg ?_ | refine zi ?_)
        all_goals conv => whnf
        all_goals rfl
  · rw [if_neg h]
    have h8 := (mchk_08 m).resolve_left h
    rw [h8] at H
    refine fn_ok (by kernel_rfl) (ty_okK [9, 48] [] [] []) Tryz.func28 rfl (fun _ _ => Tryz.call28 _ _) rfl ?_
    intro hw
    clear hw
    exact zw
theorem roRun_fn (m : Md) (l : List Ak) : FnOK Tryz.prog 43 [m.dc, .one (aks l)] (retR (runV m l)) := by
  have H := roCheck_fn m
  unfold runV
  by_cases h : mchk m = 0
  · rw [if_pos h]
    rw [h] at H
    obtain ⟨g1, g2⟩ := mchk_ok h
    obtain ⟨k1, k2, k3⟩ := fchk_ok g2
    have HT := roTwin_fn m (by omega)
    by_cases h1 : 120 < l.length
    · rw [if_pos h1]
      refine fn_ok (by kernel_rfl) (ty_okK [8, 41] [] [] []) Tryz.func43 rfl (fun _ _ => Tryz.call43 _ _) rfl ?_
      intro hw
      simp only [WDCs, WDC, WDs] at hw
      have w1 := wd_aks hw.2.1
      clear hw
      repeat' ((conv => whnf); first | (with_reducible first | refine br_t ?_ | refine br_f ?_ | refine za ?_ | refine zg ?_ | refine zo ?_ | refine zb ?_ | refine zm ?_ | refine zc ?_ | refine ze ?_) | rw [List.length_map] | ((with_reducible refine bc_t ?_ ?_); (first | omega | decide)) | ((with_reducible refine bc_f ?_ ?_); (first | omega | decide)) | (with_reducible first | refine bc (fun h => ?_) (fun h => ?_) | refine zt ?_ | refine zf ?_ | refine br_i (fun h => ?_) (fun h => ?_)) | refine zg ?_ | refine zi ?_)
      all_goals conv => whnf
      all_goals rfl
    · rw [if_neg h1]
      refine fn_ok (by kernel_rfl) (ty_okK [8, 41] [] [] []) Tryz.func43 rfl (fun _ _ => Tryz.call43 _ _) rfl ?_
      intro hw
      clear hw
      repeat' ((conv => whnf); first | (with_reducible first | refine br_t ?_ | refine br_f ?_ | refine za ?_ | refine zg ?_ | refine zo ?_ | refine zb ?_ | refine zm ?_ | refine zc ?_ | refine ze ?_) | rw [List.length_map] | ((with_reducible refine bc_t ?_ ?_); (first | omega | decide)) | ((with_reducible refine bc_f ?_ ?_); (first | omega | decide)) | (with_reducible first | refine bc (fun h => ?_) (fun h => ?_) | refine zt ?_ | refine zf ?_ | refine br_i (fun h => ?_) (fun h => ?_)) | refine zg ?_ | refine zi ?_)
      refine loop_J (by kernel_rfl) (ty_okK [8, 41] [] [] []) (σ := Nat × Md × List Rp) (fun s => [(9, sV (.int .i64 s.1)), (8, .c (.at (.osl 8 0)))]) (fun s => [(7, .own [.d (i64 s.2.1.n), .d (i64 s.2.1.d), .d (pts s.2.1.l)]), (8, .row 6 (s.2.2.map Rp.c) 0)]) (fun s => s.1 ≤ l.length ∧ mchk s.2.1 = 0 ∧ runs m (l.take s.1) = s.2) (fun s => l.length - s.1) (0, m, []) ⟨by omega, h, rfl⟩ ?_ ?_
      · (conv => whnf); exact zent
      rintro ⟨i, u, o⟩ ⟨hi, hu, hI⟩
      dsimp only at hi hu hI
      have hol : (o.map Rp.c).length = o.length := List.length_map ..
      have hoi : o.length = (l.take i).length := by have := runs_len m (l.take i); rw [hI] at this; exact this
      rw [List.length_take] at hoi
      rcases Nat.lt_or_ge i l.length with hlt | hge
      · have hel := aks_get hlt
        have HA := roDid_fn hu l[i]
        have hn := runs_succ (m := m) hlt
        have hv := askV_ok hu l[i]
        rw [hI] at hn
        dsimp only at hn
        generalize askV u l[i] = x at *
        obtain ⟨y, r⟩ := x
        dsimp only at hn hv
        simp only [retA] at HA
        have hs : o.map Rp.c ++ [[i64 r.e, i64 r.i, i64 r.j, i64 r.n, i64 r.d, mts r.ms]] = (o ++ [r]).map Rp.c := by rw [List.map_append]; rfl
        generalize l[i] = a at *
        repeat' ((conv => whnf); first | (with_reducible first | refine br_t ?_ | refine br_f ?_ | refine za ?_ | refine zg ?_ | refine zo ?_ | refine zb ?_ | refine zm ?_ | refine zc ?_ | refine ze ?_) | rw [hol] | rw [List.length_map] | ((with_reducible refine bc_t ?_ ?_); (first | omega | decide)) | ((with_reducible refine bc_f ?_ ?_); (first | omega | decide)) | (with_reducible first | refine bc (fun h => ?_) (fun h => ?_) | refine zt ?_ | refine zf ?_ | refine br_i (fun h => ?_) (fun h => ?_)) | refine zg ?_ | refine zi ?_)
        all_goals conv => whnf
        refine ⟨(i + 1, y, o ++ [r]), ⟨by omega, hv, hn⟩, ?_, by simp only; omega⟩
        (conv => whnf); refine ⟨by repeat' (first | with_reducible exact zE0 | with_reducible refine zE1 ?_ ?_ | rfl | assumption | ((exact congrArg (fun x => some (Blk.row 6 x 0)) hs)) | (refine ent_i ?_; (first | omega | (rw [IntWalk.i64_in _ (by omega)]; omega) | (simp; done))) | (refine ent_b ?_; (first | omega | (rw [IntWalk.i64_in _ (by omega)]; omega) | (simp; done)))), by repeat' (first | with_reducible exact zH0 | with_reducible refine zH1 ?_ ?_ | rfl | assumption | ((exact congrArg (fun x => some (Blk.row 6 x 0)) hs))), rfl⟩
      · obtain rfl : i = l.length := by omega
        rw [List.take_of_length_le (Nat.le_refl _)] at hI
        rw [hI]
        repeat' ((conv => whnf); first | (with_reducible first | refine br_t ?_ | refine br_f ?_ | refine za ?_ | refine zg ?_ | refine zo ?_ | refine zb ?_ | refine zm ?_ | refine zc ?_ | refine ze ?_) | rw [hol] | rw [List.length_map] | ((with_reducible refine bc_t ?_ ?_); (first | omega | decide)) | ((with_reducible refine bc_f ?_ ?_); (first | omega | decide)) | (with_reducible first | refine bc (fun h => ?_) (fun h => ?_) | refine zt ?_ | refine zf ?_ | refine br_i (fun h => ?_) (fun h => ?_)) | refine zg ?_ | refine zi ?_)
        all_goals conv => whnf
        all_goals rfl
  · rw [if_neg h]
    have h8 := (mchk_08 m).resolve_left h
    rw [h8] at H
    refine fn_ok (by kernel_rfl) (ty_okK [8, 41] [] [] []) Tryz.func43 rfl (fun _ _ => Tryz.call43 _ _) rfl ?_
    intro hw
    clear hw
    exact zw
end Go.Proofs.YtnhljlihchegjaaGreat

/- The chapter's examples hold; asks of a law. No conditions. -/
namespace Go.Proofs.YtnhljlihchegjaaGreat
open Go Go.RowKit Go.Sort Sx
theorem ldP_eq {l : List Pt} {n m : Int} {p : Pt} (hp : p ∈ l) (h : ∀ q ∈ l, q ≠ p → ldr n m p q) : ldP l n m = p := by
  have h1 := srt_sorted n m l
  have h2 := (srt_perm n m l).mem_iff (a := p)
  have h3 := fun x => (srt_perm n m l).mem_iff (a := x)
  unfold ldP
  cases hs : srt n m l with
  | nil => rw [hs] at h2; exact absurd (h2.2 hp) (by simp)
  | cons x r =>
    rw [hs] at h1 h2 h3
    show x = p
    by_cases e : x = p
    · exact e
    · exfalso
      have hx := h x ((h3 x).1 (List.mem_cons_self ..)) e
      rcases List.mem_cons.1 (h2.2 hp) with rfl | hr
      · exact e rfl
      · exact (List.pairwise_cons.1 h1).1 p hr hx
theorem btw_one {l : List Pt} (hv : fchk l = 0) {n e r t : Int} (h1 : chk n e = 0) (h2 : chk r t = 0) (h3 : ¬ r * e < n * t) {L : List Mt} (hL : (outs (pairsOf l)).filter (inT n e r t) = L) (hl : L.length ≤ 1) : btw (allM l) n e r t = L := by
  rw [← btw_filter (allM_asc hv) h1 h2 h3]
  have hp : ((allM l).filter (inT n e r t)).Perm L := by rw [← hL]; exact (msrt_perm _).filter _
  match L, hl with
  | [], _ => exact List.perm_nil.1 hp
  | [x], _ => exact List.perm_singleton.1 hp
theorem askV_lead {m : Md} {p : Pt} (h : m.l.length ≠ 0) (hp : ldP m.l m.n m.d = p) : askV m ⟨5, ⟨0, 0, 0⟩, 0, 0, 0⟩ = (m, ⟨0, p.id, 0, (plc p m.n m.d).1, (plc p m.n m.d).2, []⟩) := by
  unfold askV
  rw [if_pos (by decide), if_neg (by decide), if_neg (by decide), if_neg (by decide), if_neg (by decide), if_pos rfl, if_neg h, hp]
theorem askV_close {m : Md} : askV m ⟨6, ⟨0, 0, 0⟩, 0, 0, 0⟩ = (m, ⟨(closV m.l m.n m.d).2.2.2.2, (closV m.l m.n m.d).1, (closV m.l m.n m.d).2.1, (closV m.l m.n m.d).2.2.1, (closV m.l m.n m.d).2.2.2.1, []⟩) := by
  unfold askV
  rw [if_pos (by decide), if_neg (by decide), if_neg (by decide), if_neg (by decide), if_neg (by decide), if_neg (by decide)]
theorem askV_move {m : Md} {n d : Int} (h1 : askd n d = 0) (h2 : ¬ n * m.d ≤ m.n * d) : askV m ⟨4, ⟨0, 0, 0⟩, 0, n, d⟩ = (⟨n, d, m.l⟩, ⟨0, 0, 0, 0, 0, btw (allM m.l) m.n m.d n d⟩) := by
  unfold askV
  rw [if_pos (show formV ⟨4, ⟨0, 0, 0⟩, 0, n, d⟩ = true by unfold formV; simp), if_neg (by simp), if_neg (by simp), if_neg (by simp), if_pos rfl, if_pos h1, if_neg h2]
def P3 : List Pt := [⟨1, 0, 2⟩, ⟨2, 6, -1⟩, ⟨5, 0, 0⟩]
def givens : List Ak := [⟨1, ⟨1, 0, 2⟩, 0, 0, 0⟩, ⟨1, ⟨2, 6, -1⟩, 0, 0, 0⟩, ⟨1, ⟨5, 0, 0⟩, 0, 0, 0⟩, ⟨5, ⟨0, 0, 0⟩, 0, 0, 0⟩, ⟨6, ⟨0, 0, 0⟩, 0, 0, 0⟩, ⟨4, ⟨0, 0, 0⟩, 0, 2, 1⟩, ⟨5, ⟨0, 0, 0⟩, 0, 0, 0⟩, ⟨6, ⟨0, 0, 0⟩, 0, 0, 0⟩, ⟨4, ⟨0, 0, 0⟩, 0, 1, 1⟩]
def wants : List Rp := [rp0, rp0, rp0, ⟨0, 2, 0, 6, 1, []⟩, ⟨0, 1, 5, 0, 1, []⟩, ⟨0, 0, 0, 0, 0, [⟨2, 1, 1, 2⟩]⟩, ⟨0, 1, 0, 4, 1, []⟩, ⟨0, 1, 2, 0, 1, []⟩, rpE 44]
theorem al_puts : (askV ⟨0, 1, []⟩ ⟨1, ⟨1, 0, 2⟩, 0, 0, 0⟩) = (⟨0, 1, [⟨1, 0, 2⟩]⟩, rp0) ∧ askV ⟨0, 1, [⟨1, 0, 2⟩]⟩ ⟨1, ⟨2, 6, -1⟩, 0, 0, 0⟩ = (⟨0, 1, [⟨1, 0, 2⟩, ⟨2, 6, -1⟩]⟩, rp0) ∧ askV ⟨0, 1, [⟨1, 0, 2⟩, ⟨2, 6, -1⟩]⟩ ⟨1, ⟨5, 0, 0⟩, 0, 0, 0⟩ = (⟨0, 1, P3⟩, rp0) := by
  refine ⟨by decide, by decide, by decide⟩
theorem al_lead0 : askV ⟨0, 1, P3⟩ ⟨5, ⟨0, 0, 0⟩, 0, 0, 0⟩ = (⟨0, 1, P3⟩, ⟨0, 2, 0, 6, 1, []⟩) := by
  rw [askV_lead (p := ⟨2, 6, -1⟩) (by decide) (ldP_eq (by decide) (by decide))]
  decide
theorem al_close0 : askV ⟨0, 1, P3⟩ ⟨6, ⟨0, 0, 0⟩, 0, 0, 0⟩ = (⟨0, 1, P3⟩, ⟨0, 1, 5, 0, 1, []⟩) := by
  rw [askV_close]
  decide
theorem al_move : askV ⟨0, 1, P3⟩ ⟨4, ⟨0, 0, 0⟩, 0, 2, 1⟩ = (⟨2, 1, P3⟩, ⟨0, 0, 0, 0, 0, [⟨2, 1, 1, 2⟩]⟩) := by
  rw [askV_move (by decide) (by decide), btw_one (L := [⟨2, 1, 1, 2⟩]) (by decide) (by decide) (by decide) (by decide) (by decide) (by decide)]
theorem al_lead2 : askV ⟨2, 1, P3⟩ ⟨5, ⟨0, 0, 0⟩, 0, 0, 0⟩ = (⟨2, 1, P3⟩, ⟨0, 1, 0, 4, 1, []⟩) := by
  rw [askV_lead (p := ⟨1, 0, 2⟩) (by decide) (ldP_eq (by decide) (by decide))]
  decide
theorem al_close2 : askV ⟨2, 1, P3⟩ ⟨6, ⟨0, 0, 0⟩, 0, 0, 0⟩ = (⟨2, 1, P3⟩, ⟨0, 1, 2, 0, 1, []⟩) := by
  rw [askV_close]
  decide
theorem al_past : askV ⟨2, 1, P3⟩ ⟨4, ⟨0, 0, 0⟩, 0, 1, 1⟩ = (⟨2, 1, P3⟩, rpE 44) := by decide
theorem al_run : runV ⟨0, 1, []⟩ givens = (⟨2, 1, P3⟩, wants, 0) := by
  unfold runV
  rw [if_pos (by decide), if_neg (by decide)]
  obtain ⟨p1, p2, p3⟩ := al_puts
  simp only [givens, runs, p1, p2, p3, al_lead0, al_close0, al_move, al_lead2, al_close2, al_past]
  rfl
theorem Lat_fn (n : Int) : FnOK Tryz.prog 30 [.one (i64 n)] (.c (rat n 1)) := by
  refine fn_ok (by kernel_rfl) ty_ok Tryz.func30 rfl (fun _ _ => Tryz.call30 _ _) rfl ?_
  intro hw
  clear hw
  exact zw
theorem Lput_fn (i a b : Int) : FnOK Tryz.prog 32 [.one (i64 i), .one (i64 a), .one (i64 b)] (.c (Ak.dc ⟨1, ⟨i, a, b⟩, 0, 0, 0⟩)) := by
  refine fn_ok (by kernel_rfl) ty_ok Tryz.func32 rfl (fun _ _ => Tryz.call32 _ _) rfl ?_
  intro hw
  clear hw
  exact zw
theorem Lmove_fn (n d : Int) : FnOK Tryz.prog 33 [rat n d] (.c (Ak.dc ⟨4, ⟨0, 0, 0⟩, 0, n, d⟩)) := by
  refine fn_ok (by kernel_rfl) ty_ok Tryz.func33 rfl (fun _ _ => Tryz.call33 _ _) rfl ?_
  intro hw
  clear hw
  exact zw
theorem Lgiven_fn : FnOK Tryz.prog 73 [] (.c (.one (aks givens))) := by
  have A1 := Lat_fn 2
  have A2 := Lat_fn 1
  have B1 := Lmove_fn 2 1
  have B2 := Lmove_fn 1 1
  have C1 := Lput_fn 1 0 2
  have C2 := Lput_fn 2 6 (-1)
  have C3 := Lput_fn 5 0 0
  refine fn_ok (by kernel_rfl) ty_ok Tryz.func73 rfl (fun _ _ => Tryz.call73 _ _) rfl ?_
  intro hw
  clear hw
  exact zw
theorem Lalive_fn : FnOK Tryz.prog 25 [] (.c (.one (bol true))) := by
  have A0 := Lat_fn 0
  have A1 := Lat_fn 6
  have A2 := Lat_fn 2
  have A3 := Lat_fn 4
  have B := oNew_fn 0 1
  rw [show newV 0 1 = (⟨0, 1, []⟩, 0) by decide] at B
  have C := oRun_fn ⟨0, 1, []⟩ givens
  rw [al_run] at C
  have G := Lgiven_fn
  have S := roSameAll_fn wants wants
  simp only [decide_true, wants, rp0, rpE, retR, rps, List.map_cons, List.map_nil, Rp.c, Mt.c, mts] at S C
  simp only [retN] at B
  simp only [P3] at C
  refine fn_ok (by kernel_rfl) ty_ok Tryz.func25 rfl (fun _ _ => Tryz.call25 _ _) rfl ?_
  intro hw
  clear hw
  repeat' ((conv => whnf); first | (with_reducible first | refine br_t ?_ | refine br_f ?_ | refine za ?_ | refine zg ?_ | refine zo ?_ | refine zb ?_ | refine zm ?_ | refine zc ?_ | refine ze ?_) | ((with_reducible refine bc_t ?_ ?_); (first | omega | decide)) | ((with_reducible refine bc_f ?_ ?_); (first | omega | decide)) | (with_reducible first | refine bc (fun h => ?_) (fun h => ?_) | refine zt ?_ | refine zf ?_ | refine br_i (fun h => ?_) (fun h => ?_) | refine xi (pv_bool fun _ => eqv23 _ _ _ _ _ _ _) ?_) | refine zg ?_ | refine zi ?_)
  all_goals conv => whnf
  all_goals rfl
theorem Lfit_fn (m : Md) : FnOK Tryz.prog 35 [m.dc] (.c (.one (bol (!great m.l && decide (mchk m = 0))))) := by
  have H0 := rfGreat_fn m.l
  have H1 := roCheck_fn m
  cases hg : great m.l <;> rw [hg] at H0
  · by_cases h : mchk m = 0
    · rw [h] at H1 ⊢
      refine fn_ok (by kernel_rfl) ty_ok Tryz.func35 rfl (fun _ _ => Tryz.call35 _ _) rfl ?_
      intro hw
      clear hw
      exact zw
    · rw [decide_eq_false h]
      generalize mchk m = z at *
      refine fn_ok (by kernel_rfl) ty_ok Tryz.func35 rfl (fun _ _ => Tryz.call35 _ _) rfl ?_
      intro hw
      clear hw
      repeat' ((conv => whnf); first | (with_reducible first | refine br_t ?_ | refine br_f ?_ | refine za ?_ | refine zg ?_ | refine zo ?_ | refine zb ?_ | refine zm ?_ | refine zc ?_ | refine ze ?_) | ((with_reducible refine bc_t ?_ ?_); (first | omega | decide)) | ((with_reducible refine bc_f ?_ ?_); (first | omega | decide)) | (with_reducible first | refine bc (fun h => ?_) (fun h => ?_) | refine zt ?_ | refine zf ?_ | refine br_i (fun h => ?_) (fun h => ?_)) | refine zg ?_ | refine zi ?_)
      all_goals conv => whnf
      all_goals exact r_bool (by simp [h])
  · refine fn_ok (by kernel_rfl) ty_ok Tryz.func35 rfl (fun _ _ => Tryz.call35 _ _) rfl ?_
    intro hw
    clear hw
    exact zw
theorem Lerr_fn {m : Md} {a : Ak} {w : Int} (h : doV m a = (m, rpE w, 0)) : FnOK Tryz.prog 31 [m.dc, a.dc, .one (i64 w)] (.c (.one (bol true))) := by
  have H1 := oDo_fn m a
  have H2 := roSame_fn (rpE w) (rpE w)
  have H3 := roSameModel_fn m m
  rw [h] at H1
  simp only [decide_true, retD, rpE, Rp.dc, mts, List.map_nil] at H1 H2 H3
  refine fn_ok (by kernel_rfl) ty_ok Tryz.func31 rfl (fun _ _ => Tryz.call31 _ _) rfl ?_
  intro hw
  clear hw
  exact zw
end Go.Proofs.YtnhljlihchegjaaGreat

/- The past: checks. No conditions. -/
namespace Go.Proofs.YtnhljlihchegjaaGreat
open Go.RowKit Go.Sort Sx
theorem eqPt_fn (a b : List Pt) : FnOK Tryz.prog 132 [.one (pts a), .one (pts b)] (.c (.one (bol (decide (a = b))))) := by
  refine fn_ok (by kernel_rfl) ty_ok Tryz.func132 rfl (fun _ _ => Tryz.call132 _ _) rfl ?_
  intro hw
  simp only [WDCs, WDC, WDs] at hw
  obtain ⟨w1, _⟩ := wd_pts hw.1
  obtain ⟨w2, _⟩ := wd_pts hw.2.1
  clear hw
  by_cases h0 : a.length = b.length
  · repeat' ((conv => whnf); first | (with_reducible first | refine br_t ?_ | refine br_f ?_ | refine za ?_ | refine zg ?_ | refine zo ?_ | refine zb ?_ | refine zm ?_ | refine zc ?_ | refine ze ?_) | rw [List.length_map] | ((with_reducible refine bc_t ?_ ?_); (first | omega | decide)) | ((with_reducible refine bc_f ?_ ?_); (first | omega | decide)) | (with_reducible first | refine bc (fun h => ?_) (fun h => ?_) | refine zt ?_ | refine zf ?_ | refine br_i (fun h => ?_) (fun h => ?_) | refine xi (pv_bool fun _ => nev30 _ _ _ _ _ _ _ _ _) ?_) | refine zg ?_ | refine zi ?_)
    refine loop_J (by kernel_rfl) ty_ok (σ := Nat) (fun i => [(13, sV (.int .i64 i))]) (fun _ => []) (fun i => i ≤ a.length ∧ a.take i = b.take i) (fun i => a.length - i) 0 ⟨by omega, rfl⟩ ?_ ?_
    · (conv => whnf); exact zent
    rintro i ⟨hi, hI⟩
    rcases Nat.lt_or_ge i a.length with hlt | hge
    · have hb : i < b.length := by omega
      have he1 := pts_get hlt
      have he2 := pts_get hb
      by_cases hc : a[i] = b[i]
      · have hq := Pt.eq_iff.1 hc
        repeat' ((conv => whnf); first | (with_reducible first | refine br_t ?_ | refine br_f ?_ | refine za ?_ | refine zg ?_ | refine zo ?_ | refine zb ?_ | refine zm ?_ | refine zc ?_ | refine ze ?_) | rw [List.length_map] | ((with_reducible refine bc_t ?_ ?_); (first | omega | decide)) | ((with_reducible refine bc_f ?_ ?_); (first | omega | decide)) | (with_reducible first | refine bc (fun h => ?_) (fun h => ?_) | refine zt ?_ | refine zf ?_ | refine br_i (fun h => ?_) (fun h => ?_) | refine xi (pv_bool fun _ => nev30 _ _ _ _ _ _ _ _ _) ?_) | refine zg ?_ | refine zi ?_)
        all_goals conv => whnf
        refine ⟨i + 1, ⟨by omega, take_succ_eq hI hlt hb hc⟩, ?_, by omega⟩
        (conv => whnf); exact zent
      · have hq := mt Pt.eq_iff.2 hc
        rw [decide_eq_false (ne_of_get hlt hb hc)]
        repeat' ((conv => whnf); first | (with_reducible first | refine br_t ?_ | refine br_f ?_ | refine za ?_ | refine zg ?_ | refine zo ?_ | refine zb ?_ | refine zm ?_ | refine zc ?_ | refine ze ?_) | rw [List.length_map] | ((with_reducible refine bc_t ?_ ?_); (first | omega | decide)) | ((with_reducible refine bc_f ?_ ?_); (first | omega | decide)) | (with_reducible first | refine bc (fun h => ?_) (fun h => ?_) | refine zt ?_ | refine zf ?_ | refine br_i (fun h => ?_) (fun h => ?_) | refine xi (pv_bool fun _ => nev30 _ _ _ _ _ _ _ _ _) ?_) | refine zg ?_ | refine zi ?_)
        all_goals conv => whnf
        all_goals rfl
    · rw [decide_eq_true (take_all_eq hI h0 hge)]
      repeat' ((conv => whnf); first | (with_reducible first | refine br_t ?_ | refine br_f ?_ | refine za ?_ | refine zg ?_ | refine zo ?_ | refine zb ?_ | refine zm ?_ | refine zc ?_ | refine ze ?_) | rw [List.length_map] | ((with_reducible refine bc_t ?_ ?_); (first | omega | decide)) | ((with_reducible refine bc_f ?_ ?_); (first | omega | decide)) | (with_reducible first | refine bc (fun h => ?_) (fun h => ?_) | refine zt ?_ | refine zf ?_ | refine br_i (fun h => ?_) (fun h => ?_) | refine xi (pv_bool fun _ => nev30 _ _ _ _ _ _ _ _ _) ?_) | refine zg ?_ | refine zi ?_)
      all_goals conv => whnf
      all_goals rfl
  · rw [decide_eq_false (fun h => h0 (congrArg List.length h))]
    repeat' ((conv => whnf); first | (with_reducible first | refine br_t ?_ | refine br_f ?_ | refine za ?_ | refine zg ?_ | refine zo ?_ | refine zb ?_ | refine zm ?_ | refine zc ?_ | refine ze ?_) | rw [List.length_map] | ((with_reducible refine bc_t ?_ ?_); (first | omega | decide)) | ((with_reducible refine bc_f ?_ ?_); (first | omega | decide)) | (with_reducible first | refine bc (fun h => ?_) (fun h => ?_) | refine zt ?_ | refine zf ?_ | refine br_i (fun h => ?_) (fun h => ?_) | refine xi (pv_bool fun _ => nev30 _ _ _ _ _ _ _ _ _) ?_) | refine zg ?_ | refine zi ?_)
    all_goals conv => whnf
    all_goals rfl
theorem psame_fn (a b : List Pt) : FnOK Tryz.prog 96 [fld a, fld b] (.c (.one (bol (decide (a = b))))) := by
  refine fn_ok (by kernel_rfl) ty_ok Tryz.func96 rfl (fun _ _ => Tryz.call96 _ _) rfl ?_
  intro hw
  clear hw
  have H := eqPt_fn a b
  exact zw
theorem clonePt_fn (l : List (List D)) (hl : l.length ≤ 1000000) : FnOK Tryz.prog 74 [.one (.list 3 l)] (.c (.one (.list 3 l))) := ok_of_own (clonePt_own l hl)
theorem pcopied_fn (l : List Pt) (hl : l.length ≤ 1000000) : FnOK Tryz.prog 95 [fld l] (.c (fld l)) := by
  refine fn_ok (by kernel_rfl) ty_ok Tryz.func95 rfl (fun _ _ => Tryz.call95 _ _) rfl ?_
  intro hw
  clear hw
  have H := clonePt_fn (l.map Pt.c) (by simpa using hl)
  exact zw
/-- a past -/
structure Pa where
  n : Int
  d : Int
  ms : List Md
  deriving DecidableEq, Inhabited
abbrev mos (l : List Md) : D := .list 3 (l.map Md.c)
abbrev Pa.dc (p : Pa) : DC := .agg [i64 p.n, i64 p.d, mos p.ms]
abbrev Md.mo (m : Md) : List D := [i64 m.n, i64 m.d, pts m.l]
theorem mos_get {l : List Md} {i : Nat} (h : i < l.length) : (l.map Md.c)[((i : Nat) : Int).toNat]? = some [i64 l[i].n, i64 l[i].d, pts l[i].l] := by
  rw [Int.toNat_natCast, List.getElem?_map, List.getElem?_eq_getElem h]; rfl
theorem mos_get' {l : List Md} {i : Nat} {j : Int} (h : i < l.length) (e : j.toNat = i) : (l.map Md.c)[j.toNat]? = some [i64 l[i].n, i64 l[i].d, pts l[i].l] := by
  rw [e, List.getElem?_map, List.getElem?_eq_getElem h]; rfl
theorem wd_mos {l : List Md} (h : WD (mos l)) : l.length ≤ 9223372036854775807 := by
  obtain ⟨h1, _, h3⟩ := WD_list.1 h
  simpa using h1
/-- moments of a past, up to a time, are in order, and valid -/
def pgo (n d : Int) : List Md → Bool
  | [] => true
  | [m] => decide (mchk m = 0 ∧ m.n * d ≤ n * m.d)
  | m :: m' :: l => decide (mchk m = 0 ∧ m.n * m'.d < m'.n * m.d) && pgo n d (m' :: l)
theorem pgo_mid {n d : Int} {l : List Md} {i : Nat} (h : i + 1 < l.length) : pgo n d (l.drop i) = (decide (mchk l[i] = 0 ∧ l[i].n * l[i + 1].d < l[i + 1].n * l[i].d) && pgo n d (l.drop (i + 1))) := by
  rw [List.drop_eq_getElem_cons (show i < l.length by omega), List.drop_eq_getElem_cons h, pgo]
theorem pgo_last {n d : Int} {l : List Md} {i : Nat} (h : i < l.length) (h2 : i + 1 = l.length) : pgo n d (l.drop i) = decide (mchk l[i] = 0 ∧ l[i].n * d ≤ n * l[i].d) := by
  rw [List.drop_eq_getElem_cons h, List.drop_eq_nil_of_le (by omega), pgo]
theorem pgo_ge {n d : Int} {l : List Md} {i : Nat} (h : l.length ≤ i) : pgo n d (l.drop i) = true := by
  rw [List.drop_eq_nil_of_le h, pgo]
theorem pgo_bad {n d : Int} {l : List Md} {i : Nat} (h : i < l.length) (hm : mchk l[i] ≠ 0) : pgo n d (l.drop i) = false := by
  rcases Nat.lt_or_ge (i + 1) l.length with h2 | h2
  · rw [pgo_mid h2, decide_eq_false (fun h => hm h.1)]; rfl
  · rw [pgo_last h (by omega), decide_eq_false (fun h => hm h.1)]
def pchk (p : Pa) : Int := if 1 ≤ p.ms.length ∧ p.ms.length ≤ 40 ∧ askd p.n p.d = 0 ∧ pgo p.n p.d p.ms = true then 0 else 8
theorem pchk_08 (p : Pa) : pchk p = 0 ∨ pchk p = 8 := by unfold pchk; split <;> simp
theorem askd_ok' {n d : Int} (h : askd n d = 0) : chk n d = 0 ∧ -1073741824 ≤ n ∧ n ≤ 1073741824 ∧ 1 ≤ d ∧ d ≤ 1024 := by
  unfold askd at h
  split at h
  · rename_i h1; exact absurd h h1
  · rename_i h1
    have h1 : chk n d = 0 := by omega
    have := (chk_iff n d).1 h1
    split at h
    · omega
    · exact ⟨h1, by omega⟩
theorem cmpN_cases (a b : Int) : (a < b ∧ cmpN a b = -1) ∨ (a = b ∧ cmpN a b = 0) ∨ (b < a ∧ cmpN a b = 1) := by
  unfold cmpN
  split
  · exact .inl ⟨by assumption, rfl⟩
  · split
    · exact .inr (.inr ⟨by omega, rfl⟩)
    · exact .inr (.inl ⟨by omega, rfl⟩)
theorem cmp_chk {p q r t : Int} (h1 : chk p q = 0) (h2 : chk r t = 0) : FnOK Tryz.prog 76 (rat2 p q r t) (.tup [.one (i64 (cmpN (p * t) (r * q))), .one (i64 0)]) := by
  have := cmp_fn p q r t
  unfold cmpV bth at this
  rw [if_pos (by rw [h1, if_pos rfl, h2])] at this
  exact this
theorem cmp_bad {p q r t : Int} (h1 : chk p q = 0) (h2 : chk r t ≠ 0) : FnOK Tryz.prog 76 (rat2 p q r t) (.tup [.one (i64 0), .one (i64 8)]) := by
  have := cmp_fn p q r t
  unfold cmpV bth at this
  rw [if_neg (by rw [h1, if_pos rfl]; exact h2)] at this
  exact this
theorem askd_chk {n d : Int} (h : askd n d = 0) : chk n d = 0 := (askd_ok' h).1
end Go.Proofs.YtnhljlihchegjaaGreat

/- A law's arguments: pasts. No conditions of its own. -/
namespace Go.Proofs.YtnhljlihchegjaaGreat
open Go Go.RowKit Sx
namespace Sx
def shPast : Sh := .st (.fc 2 shRatio (.fc 1 (.sl 3 shModel) .f0))
end Sx
theorem fit_past {c : DC} (h : FitC shPast c) : ∃ p : Pa, c = p.dc := by
  obtain ⟨ds, rfl, h⟩ := h
  obtain ⟨_, _, rfl, h1, _, _, rfl, ⟨l, rfl, h2⟩, rfl⟩ := h
  obtain ⟨n, d, rfl⟩ := fits_ratio h1
  obtain ⟨l', rfl⟩ := exists_map (f := Md.c) fun x hx => fits_model (h2 x hx)
  exact ⟨⟨n, d, l'⟩, rfl⟩
end Go.Proofs.YtnhljlihchegjaaGreat

/- The past: checks, walked. No conditions. -/
namespace Go.Proofs.YtnhljlihchegjaaGreat
open Go.RowKit Go.Sort Sx
set_option maxHeartbeats 2000000 in
theorem pCheck_fn (p : Pa) : FnOK Tryz.prog 64 [p.dc] (ret1 (pchk p)) := by
  obtain ⟨n, d, l⟩ := p
  show FnOK _ _ [.agg [i64 n, i64 d, mos l]] _
  refine fn_ok (by kernel_rfl) ty_ok Tryz.func64 rfl (fun _ _ => Tryz.call64 _ _) rfl ?_
  intro hw
  simp only [WDCs, WDC, WDs] at hw
  have w1 := wd_mos hw.1.2.2.1
  clear hw
  have hln : (l.map Md.c).length = l.length := List.length_map ..
  have H0 := asked_fn n d
  unfold pchk
  simp only
  by_cases h0 : 1 ≤ l.length ∧ l.length ≤ 40
  · by_cases h1 : askd n d = 0
    · have hrw : (if 1 ≤ l.length ∧ l.length ≤ 40 ∧ askd n d = 0 ∧ pgo n d l = true then (0 : Int) else 8) = if pgo n d l = true then 0 else 8 := by simp [h0, h1]
      rw [hrw]
      clear hrw
      have hnd := askd_chk h1
      rw [h1] at H0
      repeat' ((conv => whnf); first | (with_reducible first | refine br_t ?_ | refine br_f ?_ | refine za ?_ | refine zg ?_ | refine zo ?_ | refine zb ?_ | refine zm ?_ | refine zc ?_ | refine ze ?_) | ((with_reducible refine bc_t ?_ ?_); (first | omega | decide)) | ((with_reducible refine bc_f ?_ ?_); (first | omega | decide)) | (with_reducible first | refine bc (fun h => ?_) (fun h => ?_) | refine zt ?_ | refine zf ?_ | refine br_i (fun h => ?_) (fun h => ?_)) | refine zg ?_ | refine zi ?_)
      refine loop_J (by kernel_rfl) ty_ok (σ := Nat) (fun i => [(27, sV (.int .i64 i))]) (fun _ => []) (fun i => i ≤ l.length ∧ pgo n d (l.drop i) = pgo n d l) (fun i => l.length - i) 0 ⟨by omega, rfl⟩ ?_ ?_
      · (conv => whnf); exact zent
      rintro i ⟨hi, hI⟩
      rcases Nat.lt_or_ge i l.length with hlt | hge
      · have he1 := mos_get hlt
        have H1 := asked_fn l[i].n l[i].d
        have H2 := fCheck_fn l[i].l
        by_cases hm : mchk l[i] = 0
        · obtain ⟨m1, m2⟩ := mchk_ok hm
          have mc := askd_chk m1
          rw [m1] at H1
          rw [m2] at H2
          have ew : IntKind.i64.wrap ((i : Int) + 1) = ((i + 1 : Nat) : Int) := by rw [IntWalk.i64_in _ (by omega)]; omega
          rcases Nat.lt_or_ge (i + 1) l.length with h2 | h2
          · have he2 := mos_get' (l := l) (i := i + 1) (j := IntKind.i64.wrap ((i : Int) + 1)) h2 (by rw [ew]; omega)
            rw [pgo_mid h2] at hI
            by_cases hc : chk l[i + 1].n l[i + 1].d = 0
            · have H3 := cmp_chk mc hc
              rcases cmpN_cases (l[i].n * l[i + 1].d) (l[i + 1].n * l[i].d) with ⟨c1, c2⟩ | ⟨c1, c2⟩ | ⟨c1, c2⟩
              · rw [decide_eq_true ⟨hm, c1⟩, Bool.true_and] at hI
                rw [c2] at H3
                clear c1
                repeat' ((conv => whnf); first | (with_reducible first | refine br_t ?_ | refine br_f ?_ | refine za ?_ | refine zg ?_ | refine zo ?_ | refine zb ?_ | refine zm ?_ | refine zc ?_ | refine ze ?_) | ((with_reducible refine bc_t ?_ ?_); (first | omega | decide)) | ((with_reducible refine bc_f ?_ ?_); (first | omega | decide)) | (with_reducible first | refine bc (fun h => ?_) (fun h => ?_) | refine zt ?_ | refine zf ?_ | refine br_i (fun h => ?_) (fun h => ?_)) | refine zg ?_ | refine zi ?_)
                all_goals conv => whnf
                refine ⟨i + 1, ⟨by omega, hI⟩, ?_, by omega⟩
                (conv => whnf); exact zent
              · rw [decide_eq_false (fun h => by have := h.2; omega), Bool.false_and] at hI
                rw [c2] at H3
                rw [← hI]
                clear c1
                exact zw
              · rw [decide_eq_false (fun h => by have := h.2; omega), Bool.false_and] at hI
                rw [c2] at H3
                rw [← hI]
                clear c1
                exact zw
            · have H3 := cmp_bad mc hc
              have hb : mchk l[i + 1] ≠ 0 := fun h => hc (askd_chk (mchk_ok h).1)
              rw [pgo_bad h2 hb, Bool.and_false] at hI
              rw [← hI]
              exact zw
          · rw [pgo_last hlt (by omega)] at hI
            have H3 := cmp_chk mc hnd
            rcases cmpN_cases (l[i].n * d) (n * l[i].d) with ⟨c1, c2⟩ | ⟨c1, c2⟩ | ⟨c1, c2⟩
            · rw [decide_eq_true ⟨hm, by omega⟩] at hI
              rw [c2] at H3
              clear c1
              repeat' ((conv => whnf); first | (with_reducible first | refine br_t ?_ | refine br_f ?_ | refine za ?_ | refine zg ?_ | refine zo ?_ | refine zb ?_ | refine zm ?_ | refine zc ?_ | refine ze ?_) | ((with_reducible refine bc_t ?_ ?_); (first | omega | decide)) | ((with_reducible refine bc_f ?_ ?_); (first | omega | decide)) | (with_reducible first | refine bc (fun h => ?_) (fun h => ?_) | refine zt ?_ | refine zf ?_ | refine br_i (fun h => ?_) (fun h => ?_)) | refine zg ?_ | refine zi ?_)
              all_goals conv => whnf
              refine ⟨i + 1, ⟨by omega, by rw [pgo_ge (by omega), hI]⟩, ?_, by omega⟩
              (conv => whnf); exact zent
            · rw [decide_eq_true ⟨hm, by omega⟩] at hI
              rw [c2] at H3
              clear c1
              repeat' ((conv => whnf); first | (with_reducible first | refine br_t ?_ | refine br_f ?_ | refine za ?_ | refine zg ?_ | refine zo ?_ | refine zb ?_ | refine zm ?_ | refine zc ?_ | refine ze ?_) | ((with_reducible refine bc_t ?_ ?_); (first | omega | decide)) | ((with_reducible refine bc_f ?_ ?_); (first | omega | decide)) | (with_reducible first | refine bc (fun h => ?_) (fun h => ?_) | refine zt ?_ | refine zf ?_ | refine br_i (fun h => ?_) (fun h => ?_)) | refine zg ?_ | refine zi ?_)
              all_goals conv => whnf
              refine ⟨i + 1, ⟨by omega, by rw [pgo_ge (by omega), hI]⟩, ?_, by omega⟩
              (conv => whnf); exact zent
            · rw [decide_eq_false (fun h => by have := h.2; omega)] at hI
              rw [c2] at H3
              rw [← hI]
              clear c1
              exact zw
        · rw [pgo_bad hlt hm] at hI
          rw [← hI]
          by_cases m1 : askd l[i].n l[i].d = 0
          · rw [m1] at H1
            have m2 : fchk l[i].l ≠ 0 := fun h => hm (by unfold mchk; rw [if_pos ⟨m1, h⟩])
            generalize fchk l[i].l = z at *
            exact zw
          · generalize askd l[i].n l[i].d = z at *
            exact zw
      · rw [pgo_ge hge] at hI
        rw [← hI]
        exact zw
    · rw [if_neg (fun h => h1 h.2.2.1)]
      generalize askd n d = z at *
      exact zw
  · rw [if_neg (fun h => h0 ⟨h.1, h.2.1⟩)]
    rcases (show l.length < 1 ∨ 40 < l.length by omega) with h1 | h1
    all_goals
      exact zw
end Go.Proofs.YtnhljlihchegjaaGreat

/- The past: the reference's checks, copies, comparing. No conditions. -/
namespace Go.Proofs.YtnhljlihchegjaaGreat
open Go.RowKit Go.Sort Sx
theorem pgo_iff {n d : Int} {l : List Md} : ∀ {k i : Nat}, k = l.length - i → i < l.length → (pgo n d (l.drop i) = true ↔
    (∀ j (h : j < l.length), i ≤ j → mchk l[j] = 0) ∧ (∀ j (h : j + 1 < l.length), i ≤ j → l[j].n * l[j + 1].d < l[j + 1].n * l[j].d) ∧ ∀ j (h : j < l.length), j + 1 = l.length → l[j].n * d ≤ n * l[j].d) := by
  intro k
  induction k with
  | zero => intro i hk hi; omega
  | succ k ih =>
    intro i hk hi
    rcases Nat.lt_or_ge (i + 1) l.length with h | h
    · rw [pgo_mid h, Bool.and_eq_true, decide_eq_true_eq, ih (by omega) h]
      constructor
      · rintro ⟨⟨a1, a2⟩, b1, b2, b3⟩
        refine ⟨fun j hj hij => ?_, fun j hj hij => ?_, b3⟩
        · rcases Nat.eq_or_lt_of_le hij with rfl | h'
          · exact a1
          · exact b1 j hj h'
        · rcases Nat.eq_or_lt_of_le hij with rfl | h'
          · exact a2
          · exact b2 j hj h'
      · rintro ⟨b1, b2, b3⟩
        exact ⟨⟨b1 i hi (Nat.le_refl _), b2 i h (Nat.le_refl _)⟩, fun j hj h' => b1 j hj (by omega), fun j hj h' => b2 j hj (by omega), b3⟩
    · rw [pgo_last hi (by omega), decide_eq_true_eq]
      constructor
      · rintro ⟨a1, a2⟩
        refine ⟨fun j hj hij => ?_, fun j hj hij => by omega, fun j hj hij => ?_⟩
        · have : j = i := by omega
          subst this; exact a1
        · have : j = i := by omega
          subst this; exact a2
      · rintro ⟨b1, b2, b3⟩
        exact ⟨b1 i hi (Nat.le_refl _), b3 i hi (by omega)⟩
theorem pgo_false {n d : Int} {l : List Md} (hl : 0 < l.length) (h : ¬ ((∀ j (h : j < l.length), mchk l[j] = 0) ∧ (∀ j (h : j + 1 < l.length), l[j].n * l[j + 1].d < l[j + 1].n * l[j].d) ∧ ∀ j (h : j < l.length), j + 1 = l.length → l[j].n * d ≤ n * l[j].d)) : pgo n d l = false := by
  rw [Bool.eq_false_iff, ne_eq]
  intro h2
  have h3 := (pgo_iff (n := n) (d := d) (l := l) (i := 0) rfl hl).1 (by rw [List.drop_zero]; exact h2)
  exact h ⟨fun j hj => h3.1 j hj (Nat.zero_le _), fun j hj => h3.2.1 j hj (Nat.zero_le _), h3.2.2⟩
theorem pgo_true {n d : Int} {l : List Md} (hl : 0 < l.length) (h1 : ∀ j (h : j < l.length), mchk l[j] = 0) (h2 : ∀ j (h : j + 1 < l.length), l[j].n * l[j + 1].d < l[j + 1].n * l[j].d) (h3 : ∀ j (h : j < l.length), j + 1 = l.length → l[j].n * d ≤ n * l[j].d) : pgo n d l = true := by
  have := (pgo_iff (n := n) (d := d) (l := l) (i := 0) rfl hl).2 ⟨fun j hj _ => h1 j hj, fun j hj _ => h2 j hj, h3⟩
  rwa [List.drop_zero] at this
set_option maxHeartbeats 2000000 in
theorem rpCheck_fn (p : Pa) : FnOK Tryz.prog 51 [p.dc] (ret1 (pchk p)) := by
  obtain ⟨n, d, l⟩ := p
  show FnOK _ _ [.agg [i64 n, i64 d, mos l]] _
  refine fn_ok (by kernel_rfl) ty_ok Tryz.func51 rfl (fun _ _ => Tryz.call51 _ _) rfl ?_
  intro hw
  simp only [WDCs, WDC, WDs] at hw
  have w1 := wd_mos hw.1.2.2.1
  clear hw
  have hln : (l.map Md.c).length = l.length := List.length_map ..
  have H0 := rasked_fn n d
  unfold pchk
  simp only
  by_cases h0 : 1 ≤ l.length ∧ l.length ≤ 40
  · by_cases h1 : askd n d = 0
    · have hrw : (if 1 ≤ l.length ∧ l.length ≤ 40 ∧ askd n d = 0 ∧ pgo n d l = true then (0 : Int) else 8) = if pgo n d l = true then 0 else 8 := by simp [h0, h1]
      rw [hrw]
      clear hrw
      rw [h1] at H0
      repeat' ((conv => whnf); first | (with_reducible first | refine br_t ?_ | refine br_f ?_ | refine za ?_ | refine zg ?_ | refine zo ?_ | refine zb ?_ | refine zm ?_ | refine zc ?_ | refine ze ?_) | ((with_reducible refine bc_t ?_ ?_); (first | omega | decide)) | ((with_reducible refine bc_f ?_ ?_); (first | omega | decide)) | (with_reducible first | refine bc (fun h => ?_) (fun h => ?_) | refine zt ?_ | refine zf ?_ | refine br_i (fun h => ?_) (fun h => ?_)) | refine zg ?_ | refine zi ?_)
      refine loop_J (by kernel_rfl) ty_ok (σ := Nat) (fun i => [(3, sV (.int .i64 i))]) (fun _ => []) (fun i => i ≤ l.length ∧ ∀ j (h : j < l.length), j < i → mchk l[j] = 0) (fun i => l.length - i) 0 ⟨by omega, fun j _ h => absurd h (Nat.not_lt_zero _)⟩ ?_ ?_
      · (conv => whnf); exact zent
      rintro i ⟨hi, hI⟩
      rcases Nat.lt_or_ge i l.length with hlt | hge
      · have he1 := mos_get hlt
        have H1 := rasked_fn l[i].n l[i].d
        have H2 := rfCheck_fn l[i].l
        by_cases hm : mchk l[i] = 0
        · obtain ⟨m1, m2⟩ := mchk_ok hm
          rw [m1] at H1
          rw [m2] at H2
          repeat' ((conv => whnf); first | (with_reducible first | refine br_t ?_ | refine br_f ?_ | refine za ?_ | refine zg ?_ | refine zo ?_ | refine zb ?_ | refine zm ?_ | refine zc ?_ | refine ze ?_) | ((with_reducible refine bc_t ?_ ?_); (first | omega | decide)) | ((with_reducible refine bc_f ?_ ?_); (first | omega | decide)) | (with_reducible first | refine bc (fun h => ?_) (fun h => ?_) | refine zt ?_ | refine zf ?_ | refine br_i (fun h => ?_) (fun h => ?_)) | refine zg ?_ | refine zi ?_)
          all_goals conv => whnf
          refine ⟨i + 1, ⟨by omega, fun j hj hj2 => ?_⟩, ?_, by omega⟩
          · rcases Nat.lt_or_ge j i with h2 | h2
            · exact hI j hj h2
            · have : j = i := by omega
              subst this; exact hm
          · (conv => whnf); exact zent
        · rw [pgo_false (by omega) (fun h => hm (h.1 i hlt))]
          by_cases m1 : askd l[i].n l[i].d = 0
          · rw [m1] at H1
            have m2 : fchk l[i].l ≠ 0 := fun h => hm (by unfold mchk; rw [if_pos ⟨m1, h⟩])
            generalize fchk l[i].l = z at *
            exact zw
          · generalize askd l[i].n l[i].d = z at *
            exact zw
      · have hA : ∀ j (h : j < l.length), mchk l[j] = 0 := fun j hj => hI j hj (by omega)
        repeat' ((conv => whnf); first | (with_reducible first | refine br_t ?_ | refine br_f ?_ | refine za ?_ | refine zg ?_ | refine zo ?_ | refine zb ?_ | refine zm ?_ | refine zc ?_ | refine ze ?_) | ((with_reducible refine bc_t ?_ ?_); (first | omega | decide)) | ((with_reducible refine bc_f ?_ ?_); (first | omega | decide)) | (with_reducible first | refine bc (fun h => ?_) (fun h => ?_) | refine zt ?_ | refine zf ?_ | refine br_i (fun h => ?_) (fun h => ?_)) | refine zg ?_ | refine zi ?_)
        conv => whnf
        refine loop_J (by kernel_rfl) ty_ok (σ := Nat) (fun i => [(4, sV (.int .i64 ((i + 1 : Nat) : Int)))]) (fun _ => []) (fun i => i + 1 ≤ l.length ∧ ∀ j (h : j + 1 < l.length), j < i → l[j].n * l[j + 1].d < l[j + 1].n * l[j].d) (fun i => l.length - i) 0 ⟨by omega, fun j _ h => absurd h (Nat.not_lt_zero _)⟩ ?_ ?_
        · (conv => whnf); exact zent
        rintro i ⟨hi, hI⟩
        rcases Nat.lt_or_ge (i + 1) l.length with hlt | hge
        · have ew : IntKind.i64.wrap (((i + 1 : Nat) : Int) - 1) = (i : Int) := by rw [IntWalk.i64_in _ (by omega)]; omega
          have he1 := mos_get hlt
          have he2 := mos_get' (l := l) (i := i) (j := IntKind.i64.wrap (((i + 1 : Nat) : Int) - 1)) (by omega) (by rw [ew]; omega)
          have H3 := rcompare_fn l[i].n l[i].d l[i + 1].n l[i + 1].d
          rcases cmpN_cases (l[i].n * l[i + 1].d) (l[i + 1].n * l[i].d) with ⟨c1, c2⟩ | ⟨c1, c2⟩ | ⟨c1, c2⟩
          · rw [c2] at H3
            have hN : ∀ j (h : j + 1 < l.length), j < i + 1 → l[j].n * l[j + 1].d < l[j + 1].n * l[j].d := fun j hj hj2 => by
              rcases Nat.lt_or_ge j i with h2 | h2
              · exact hI j hj h2
              · have : j = i := by omega
                subst this; exact c1
            clear c1
            repeat' ((conv => whnf); first | (with_reducible first | refine br_t ?_ | refine br_f ?_ | refine za ?_ | refine zg ?_ | refine zo ?_ | refine zb ?_ | refine zm ?_ | refine zc ?_ | refine ze ?_) | ((with_reducible refine bc_t ?_ ?_); (first | omega | decide)) | ((with_reducible refine bc_f ?_ ?_); (first | omega | decide)) | (with_reducible first | refine bc (fun h => ?_) (fun h => ?_) | refine zt ?_ | refine zf ?_ | refine br_i (fun h => ?_) (fun h => ?_)) | refine zg ?_ | refine zi ?_)
            all_goals conv => whnf
            refine ⟨i + 1, ⟨by omega, hN⟩, ?_, by omega⟩
            (conv => whnf); exact zent
          all_goals
            rw [pgo_false (by omega) (fun h => by have := h.2.1 i hlt; omega)]
            rw [c2] at H3
            clear c1
            exact zw
        · have hj : i < l.length := by omega
          have ew : IntKind.i64.wrap ((l.length : Int) - 1) = (i : Int) := by rw [IntWalk.i64_in _ (by omega)]; omega
          have he1 := mos_get' (l := l) (i := i) (j := IntKind.i64.wrap ((l.length : Int) - 1)) (by omega) (by rw [ew]; omega)
          have H3 := rcompare_fn l[i].n l[i].d n d
          rcases cmpN_cases (l[i].n * d) (n * l[i].d) with ⟨c1, c2⟩ | ⟨c1, c2⟩ | ⟨c1, c2⟩
          · rw [pgo_true (by omega) hA (fun j hj => hI j hj (by omega)) (fun j hj hj2 => by have : j = i := by omega
                                                                                            subst this; omega)]
            rw [c2] at H3
            clear c1
            repeat' ((conv => whnf); first | (with_reducible first | refine br_t ?_ | refine br_f ?_ | refine za ?_ | refine zg ?_ | refine zo ?_ | refine zb ?_ | refine zm ?_ | refine zc ?_ | refine ze ?_) | rw [hln] | ((with_reducible refine bc_t ?_ ?_); (first | omega | decide)) | ((with_reducible refine bc_f ?_ ?_); (first | omega | decide)) | (with_reducible first | refine bc (fun h => ?_) (fun h => ?_) | refine zt ?_ | refine zf ?_ | refine br_i (fun h => ?_) (fun h => ?_)) | refine zg ?_ | refine zi ?_)
            all_goals conv => whnf
            all_goals rfl
          · rw [pgo_true (by omega) hA (fun j hj => hI j hj (by omega)) (fun j hj hj2 => by have : j = i := by omega
                                                                                            subst this; omega)]
            rw [c2] at H3
            clear c1
            repeat' ((conv => whnf); first | (with_reducible first | refine br_t ?_ | refine br_f ?_ | refine za ?_ | refine zg ?_ | refine zo ?_ | refine zb ?_ | refine zm ?_ | refine zc ?_ | refine ze ?_) | rw [hln] | ((with_reducible refine bc_t ?_ ?_); (first | omega | decide)) | ((with_reducible refine bc_f ?_ ?_); (first | omega | decide)) | (with_reducible first | refine bc (fun h => ?_) (fun h => ?_) | refine zt ?_ | refine zf ?_ | refine br_i (fun h => ?_) (fun h => ?_)) | refine zg ?_ | refine zi ?_)
            all_goals conv => whnf
            all_goals rfl
          · rw [pgo_false (by omega) (fun h => by have := h.2.2 i hj (by omega); omega)]
            rw [c2] at H3
            clear c1
            repeat' ((conv => whnf); first | (with_reducible first | refine br_t ?_ | refine br_f ?_ | refine za ?_ | refine zg ?_ | refine zo ?_ | refine zb ?_ | refine zm ?_ | refine zc ?_ | refine ze ?_) | rw [hln] | ((with_reducible refine bc_t ?_ ?_); (first | omega | decide)) | ((with_reducible refine bc_f ?_ ?_); (first | omega | decide)) | (with_reducible first | refine bc (fun h => ?_) (fun h => ?_) | refine zt ?_ | refine zf ?_ | refine br_i (fun h => ?_) (fun h => ?_)) | refine zg ?_ | refine zi ?_)
            all_goals conv => whnf
            all_goals rfl
    · rw [if_neg (fun h => h1 h.2.2.1)]
      generalize askd n d = z at *
      exact zw
  · rw [if_neg (fun h => h0 ⟨h.1, h.2.1⟩)]
    rcases (show l.length < 1 ∨ 40 < l.length by omega) with h1 | h1
    all_goals
      exact zw
end Go.Proofs.YtnhljlihchegjaaGreat
