import Derived.Test.YtnhljlihchegjaaGreatGbBB
import Derived.Test.YtnhljlihchegjaaGreatGbAZ
import Derived.Test.YtnhljlihchegjaaGreatRows
import Derived.Test.YtnhljlihchegjaaGreatGbAB
import Derived.Test.YtnhljlihchegjaaGreatGbAY
set_option linter.all false
/- Points that are put in in another order make the same model. No program is named. -/
namespace Go.Proofs.YtnhljlihchegjaaGreat
open Go.RowKit Go.Sort Sx
def putA (p : Pt) : Ak := ⟨1, p, 0, 0, 0⟩
theorem insP_perm (l : List Pt) (p : Pt) : (insP l p).Perm (p :: l) := by
  unfold insP
  have h := List.perm_middle (a := p) (l₁ := l.take (pos l p.id)) (l₂ := l.drop (pos l p.id))
  rw [List.take_append_drop] at h
  exact h
theorem incr_uniq {a b : List Pt} (ha : incr a = true) (hb : incr b = true) (h : a.Perm b) : a = b :=
  List.Perm.eq_of_pairwise (le := fun p q => p.id < q.id) (fun p q _ _ h1 h2 => by omega) (incr_pw.1 ha) (incr_pw.1 hb) h
structure Dis (l : List Pt) : Prop where
  ok : ∀ p ∈ l, p.chk = 0
  ne : l.Pairwise fun p q => p.id ≠ q.id
theorem putV_new {f : List Pt} {p : Pt} (hf : fchk f = 0) (hp : p.chk = 0) (hn : ∀ q ∈ f, q.id ≠ p.id) (hl : f.length < 64) : putV f p = (insP f p, 0) := by
  have hh : has f p.id = false := by
    rw [Bool.eq_false_iff]
    intro h
    obtain ⟨q, hq, e⟩ := List.any_eq_true.1 h
    exact hn q hq (by simpa using e)
  unfold putV
  rw [if_pos hf, if_pos hp, if_neg (by rw [hh]; decide), if_neg (by omega)]
theorem puts_runs (n d : Int) : ∀ (l f : List Pt), fchk f = 0 → Dis l → (∀ p ∈ l, ∀ q ∈ f, q.id ≠ p.id) → f.length + l.length ≤ 64 →
    ∃ F, runs ⟨n, d, f⟩ (l.map putA) = (⟨n, d, F⟩, List.replicate l.length rp0) ∧ fchk F = 0 ∧ F.Perm (f ++ l)
  | [], f, hf, _, _, _ => ⟨f, rfl, hf, by simp⟩
  | p :: l, f, hf, hd, hn, hl => by
    have hp := hd.ok p (List.mem_cons_self ..)
    have hpf : ∀ q ∈ f, q.id ≠ p.id := hn p (List.mem_cons_self ..)
    have hput := putV_new hf hp hpf (by simp only [List.length_cons] at hl; omega)
    have hask : askV ⟨n, d, f⟩ (putA p) = (⟨n, d, insP f p⟩, rp0) := by
      unfold askV
      rw [if_pos (show formV (putA p) = true by unfold formV putA; simp), if_pos (show (putA p).k = 1 from rfl)]
      show (if (putV f p).2 = 0 then _ else _) = _
      rw [hput, if_pos rfl]
      show (_, _) = (_, _)
      rw [show (putV f (putA p).p).1 = insP f p from congrArg Prod.fst hput]
    have hok : fchk (insP f p) = 0 := by have := putV_ok (l := f) (p := p) (by rw [hput]); rw [hput] at this; exact this
    have hpw := List.pairwise_cons.1 hd.ne
    have hperm := insP_perm f p
    obtain ⟨F, e, hF, hP⟩ := puts_runs n d l (insP f p) hok ⟨fun q hq => hd.ok q (List.mem_cons_of_mem _ hq), hpw.2⟩ (fun q hq r hr => by
      rcases List.mem_cons.1 (hperm.mem_iff.1 hr) with rfl | hr
      · exact hpw.1 q hq
      · exact hn q (List.mem_cons_of_mem _ hq) r hr) (by have := hperm.length_eq; simp only [List.length_cons] at *; omega)
    refine ⟨F, ?_, hF, ?_⟩
    · rw [List.map_cons, runs, hask]
      dsimp only
      rw [e]
      rfl
    · refine hP.trans ((hperm.append_right l).trans ?_)
      exact List.perm_middle.symm
/-- both orders -/
theorem puts_both {l : List Pt} (n d : Int) (hd : Dis l) (hl : l.length ≤ 10) (t : Nat) :
    ∃ F, runs ⟨n, d, []⟩ (l.map putA) = (⟨n, d, F⟩, List.replicate l.length rp0) ∧ runs ⟨n, d, []⟩ ((l.drop t ++ l.take t).map putA) = (⟨n, d, F⟩, List.replicate l.length rp0) ∧ fchk F = 0 := by
  have hp : (l.drop t ++ l.take t).Perm l := by
    have := List.perm_append_comm (l₁ := l.drop t) (l₂ := l.take t)
    rwa [List.take_append_drop] at this
  have hd2 : Dis (l.drop t ++ l.take t) := ⟨fun p h => hd.ok p (hp.mem_iff.1 h), (hp.pairwise_iff (fun h => fun e => h e.symm)).2 hd.ne⟩
  have h0 : fchk [] = 0 := by decide
  obtain ⟨F, e1, f1, p1⟩ := puts_runs n d l [] h0 hd (by simp) (by simp; omega)
  obtain ⟨G, e2, f2, p2⟩ := puts_runs n d _ [] h0 hd2 (by simp) (by have := hp.length_eq; simp only [List.length_nil]; omega)
  have hlen : (l.drop t ++ l.take t).length = l.length := hp.length_eq
  rw [hlen] at e2
  obtain rfl : F = G := incr_uniq (fchk_ok f1).2.2 (fchk_ok f2).2.2 (p1.trans ((by simpa using hp.symm : ([] ++ l).Perm ([] ++ (l.drop t ++ l.take t))).trans p2.symm))
  exact ⟨F, e1, e2, f1⟩
end Go.Proofs.YtnhljlihchegjaaGreat

/- The law OracleAlike answers true. No condition. -/
namespace Go.Proofs.YtnhljlihchegjaaGreat
open Go.RowKit Go.Sort Sx
set_option maxRecDepth 100000 in
set_option maxHeartbeats 40000000 in
theorem LAlike_fn (l : List Pt) (n d t : Int) (asks : List Ak) : FnOK Tryz.prog 4 [.one (pts l), rat n d, .one (i64 t), .one (aks asks)] (.c (.one (bol true))) := by
  have HA := Lalive_fn
  have ol : (l.map Pt.c).length = l.length := List.length_map ..
  have oa : (asks.map Ak.c).length = asks.length := List.length_map ..
  by_cases hc : l.length ≤ 10 ∧ asks.length ≤ 10 ∧ 0 ≤ t ∧ t ≤ l.length
  · obtain ⟨c1, c2, c3, c4⟩ := hc
    obtain ⟨k, rfl⟩ : ∃ k : Nat, t = k := ⟨t.toNat, by omega⟩
    have N1 := oNew_fn n d
    have R1 := rasked_fn n d
    refine fn_ok (by kernel_rfl) (ty_okK [9, 83, 88] [] [] []) Tryz.func4 rfl (fun _ _ => Tryz.call4 _ _) rfl ?_
    intro hw
    clear hw
    repeat' ((conv => whnf); first | (with_reducible first | refine br_t ?_ | refine br_f ?_ | refine za ?_ | refine zg ?_ | refine zo ?_ | refine zb ?_ | refine zm ?_ | refine zc ?_ | refine ze ?_) | (rw [ol]; omega) | (rw [oa]; omega) | ((with_reducible refine bc_t ?_ ?_); (first | omega | decide)) | ((with_reducible refine bc_f ?_ ?_); (first | omega | decide)) | (with_reducible first | refine bc (fun h => ?_) (fun h => ?_) | refine zt ?_ | refine zf ?_ | refine br_i (fun h => ?_) (fun h => ?_)) | refine zg ?_ | refine zi ?_)
    refine loop_frz [9] ?_
    refine loop_J (by kernel_rfl) (ty_okK [9, 83, 88] [] [] []) (σ := Nat) (fun i => [(11, sV (.int .i64 i)), (9, .c (.at (.osl 9 0)))]) (fun i => [(9, .row 7 (((l.take i).map putA).map Ak.c) 0)]) (fun i => i ≤ l.length ∧ Dis (l.take i)) (fun i => l.length - i) 0 ⟨Nat.zero_le _, ⟨by simp, by simp⟩⟩ ?_ ?_
    · (conv => whnf); exact zent
    rintro i ⟨hi, hD⟩
    rcases Nat.lt_or_ge i l.length with hlt | hge
    · have hel := pts_get hlt
      have hoi : (((l.take i).map putA).map Ak.c).length = i := by simp; omega
      repeat' ((conv => whnf); first | (with_reducible first | refine br_t ?_ | refine br_f ?_ | refine za ?_ | refine zg ?_ | refine zo ?_ | refine zb ?_ | refine zm ?_ | refine zc ?_ | refine ze ?_) | (rw [ol]; omega) | (rw [hoi]; omega) | ((with_reducible refine bc_t ?_ ?_); (first | omega | decide)) | ((with_reducible refine bc_f ?_ ?_); (first | omega | decide)) | (with_reducible first | refine bc (fun h => ?_) (fun h => ?_) | refine zt ?_ | refine zf ?_ | refine br_i (fun h => ?_) (fun h => ?_)) | refine zg ?_ | refine zi ?_)
      refine loop_J (by kernel_rfl) (ty_okK [9, 83, 88] [] [] []) (σ := Nat) (fun j => [(12, sV (.int .i64 j))]) (fun _ => []) (fun j => j ≤ i ∧ ∀ q (hq : q < l.length), q < j → l[q].id ≠ l[i].id) (fun j => i - j) 0 ⟨Nat.zero_le _, fun q hq h => absurd h (Nat.not_lt_zero _)⟩ ?_ ?_
      · (conv => whnf); exact zent
      rintro j ⟨hj, hJ⟩
      rcases Nat.lt_or_ge j i with hji | hji
      · have hjl : j < l.length := by omega
        have hel2 := pts_get hjl
        by_cases he : l[j].id = l[i].id
        · repeat' ((conv => whnf); first | (with_reducible first | refine br_t ?_ | refine br_f ?_ | refine za ?_ | refine zg ?_ | refine zo ?_ | refine zb ?_ | refine zm ?_ | refine zc ?_ | refine ze ?_) | (rw [ol]; omega) | ((with_reducible refine bc_t ?_ ?_); (first | omega | decide)) | ((with_reducible refine bc_f ?_ ?_); (first | omega | decide)) | (with_reducible first | refine bc (fun h => ?_) (fun h => ?_) | refine zt ?_ | refine zf ?_ | refine br_i (fun h => ?_) (fun h => ?_)) | refine zg ?_ | refine zi ?_)
          all_goals conv => whnf
          all_goals rfl
        · have hn : ∀ q (hq : q < l.length), q < j + 1 → l[q].id ≠ l[i].id := fun q hq h => by
            rcases Nat.lt_or_ge q j with h1 | h1
            · exact hJ q hq h1
            · obtain rfl : q = j := by omega
              exact he
          generalize l[j] = y at *
          repeat' ((conv => whnf); first | (with_reducible first | refine br_t ?_ | refine br_f ?_ | refine za ?_ | refine zg ?_ | refine zo ?_ | refine zb ?_ | refine zm ?_ | refine zc ?_ | refine ze ?_) | (rw [ol]; omega) | ((with_reducible refine bc_t ?_ ?_); (first | omega | decide)) | ((with_reducible refine bc_f ?_ ?_); (first | omega | decide)) | (with_reducible first | refine bc (fun h => ?_) (fun h => ?_) | refine zt ?_ | refine zf ?_ | refine br_i (fun h => ?_) (fun h => ?_)) | refine zg ?_ | refine zi ?_)
          all_goals conv => whnf
          refine ⟨j + 1, ⟨hji, hn⟩, ?_, by omega⟩
          (conv => whnf); exact zent
      · obtain rfl : j = i := by omega
        have C := kkCheck_fn l[j].id l[j].a l[j].b
        by_cases hk : l[j].chk = 0
        · have hD2 : Dis (l.take (j + 1)) := by
            rw [List.take_succ_eq_append_getElem hlt]
            refine ⟨fun p hp => ?_, List.pairwise_append.2 ⟨hD.ne, List.pairwise_singleton .., fun a ha b hb => ?_⟩⟩
            · rcases List.mem_append.1 hp with hp | hp
              · exact hD.ok p hp
              · rw [List.mem_singleton.1 hp]; exact hk
            · rw [List.mem_singleton.1 hb]
              obtain ⟨q, hq, rfl⟩ := List.mem_iff_getElem.1 ha
              rw [List.getElem_take]
              rw [List.length_take] at hq
              exact hJ q (by omega) (by omega)
          have hs : ((l.take j).map putA).map Ak.c ++ [[u8 1, i64 l[j].id, i64 l[j].a, i64 l[j].b, i64 0, i64 0, i64 0]] = ((l.take (j + 1)).map putA).map Ak.c := by
            rw [List.take_succ_eq_append_getElem hlt, List.map_append, List.map_append]; rfl
          have C0 : FnOK Tryz.prog 26 [pt l[j].id l[j].a l[j].b] (ret1 0) := by rw [← hk]; exact C
          clear C hk
          generalize l[j] = y at *
          repeat' ((conv => whnf); first | (with_reducible first | refine br_t ?_ | refine br_f ?_ | refine za ?_ | refine zg ?_ | refine zo ?_ | refine zb ?_ | refine zm ?_ | refine zc ?_ | refine ze ?_) | (rw [ol]; omega) | (rw [hoi]; omega) | ((with_reducible refine bc_t ?_ ?_); (first | omega | decide)) | ((with_reducible refine bc_f ?_ ?_); (first | omega | decide)) | (with_reducible first | refine bc (fun h => ?_) (fun h => ?_) | refine zt ?_ | refine zf ?_ | refine br_i (fun h => ?_) (fun h => ?_)) | refine zg ?_ | refine zi ?_)
          all_goals conv => whnf
          refine ⟨j + 1, ⟨hlt, hD2⟩, ?_, by omega⟩
          (conv => whnf); refine ⟨by repeat' (first | with_reducible exact zE0 | with_reducible refine zE1 ?_ ?_ | rfl | assumption | ((exact congrArg (fun x => some (Blk.row 7 x 0)) hs)) | (refine ent_i ?_; (first | omega | (rw [IntWalk.i64_in _ (by omega)]; omega) | (simp; done))) | (refine ent_b ?_; (first | omega | (rw [IntWalk.i64_in _ (by omega)]; omega) | (simp; done)))), by repeat' (first | with_reducible exact zH0 | with_reducible refine zH1 ?_ ?_ | rfl | assumption | ((exact congrArg (fun x => some (Blk.row 7 x 0)) hs))), rfl⟩
        · have hk' : cpt l[j].id l[j].a l[j].b ≠ 0 := hk
          generalize cpt l[j].id l[j].a l[j].b = z at *
          clear hk
          generalize l[j] = y at *
          repeat' ((conv => whnf); first | (with_reducible first | refine br_t ?_ | refine br_f ?_ | refine za ?_ | refine zg ?_ | refine zo ?_ | refine zb ?_ | refine zm ?_ | refine zc ?_ | refine ze ?_) | (rw [ol]; omega) | (rw [hoi]; omega) | ((with_reducible refine bc_t ?_ ?_); (first | omega | decide)) | ((with_reducible refine bc_f ?_ ?_); (first | omega | decide)) | (with_reducible first | refine bc (fun h => ?_) (fun h => ?_) | refine zt ?_ | refine zf ?_ | refine br_i (fun h => ?_) (fun h => ?_)) | refine zg ?_ | refine zi ?_)
          all_goals conv => whnf
          all_goals rfl
    · obtain rfl : i = l.length := by omega
      rw [List.take_of_length_le (Nat.le_refl _)] at hD ⊢
      by_cases hn : askd n d = 0
      · have hm : mchk ⟨n, d, []⟩ = 0 := mchk_mk hn (show fchk [] = 0 by decide)
        obtain ⟨F, e1, e2, e3⟩ := puts_both n d hD c1 k
        have hmF : mchk ⟨n, d, F⟩ = 0 := mchk_mk hn e3
        have B1 := oRun_fn ⟨n, d, []⟩ (l.map putA)
        have B2 := oRun_fn ⟨n, d, []⟩ ((l.drop k ++ l.take k).map putA)
        unfold runV at B1 B2
        rw [if_pos hm, if_neg (by simp; omega), e1] at B1
        rw [if_pos hm, if_neg (by simp; omega), e2] at B2
        have B3 := oRun_fn ⟨n, d, F⟩ asks
        unfold runV at B3
        rw [if_pos hmF, if_neg (by omega)] at B3
        have hA1 : ((l.drop k ++ l.take k).map putA).map Ak.c = ((((l.map putA).map Ak.c).take (((((l.map putA).map Ak.c).length : Nat) : Int)).toNat).drop ((k : Nat) : Int).toNat) ++ ((((l.map putA).map Ak.c).take ((k : Nat) : Int).toNat).drop (0 : Int).toNat) := by
          rw [Int.toNat_natCast, Int.toNat_natCast, Int.toNat_zero, List.drop_zero, List.take_of_length_le (Nat.le_refl _), List.map_append, List.map_append, List.map_drop, List.map_drop, List.map_take, List.map_take]
        simp only [aks, hA1] at B2
        have hAl : ((l.map putA).map Ak.c).length = l.length := by simp
        generalize hA : (l.map putA).map Ak.c = A at *
        have S1 := roSameAll_fn (List.replicate l.length rp0) (List.replicate l.length rp0)
        have S2 := roSameModel_fn ⟨n, d, F⟩ ⟨n, d, F⟩
        generalize runs ⟨n, d, F⟩ asks = q at *
        obtain ⟨q1, q2⟩ := q
        have S3 := roSameModel_fn q1 q1
        have S4 := roSameAll_fn q2 q2
        rw [show newV n d = (⟨n, d, []⟩, 0) by unfold newV; rw [if_pos hn]] at N1
        rw [hn] at R1
        simp only [retR, retN, aks, hA, decide_true, Md.dc] at B1 B2 B3 S1 S2 S3 S4 N1
        have S1' : FnOK Tryz.prog 29 [.one (rps (List.replicate l.length rp0)), .one (.list 6 (List.replicate (((l.map Pt.c).length : Nat) : Int).toNat [i64 0, i64 0, i64 0, i64 0, i64 0, .list 4 []]))] (.c (.one (bol true))) := by
          rw [Int.toNat_natCast, ol]
          rw [show (List.replicate l.length [i64 0, i64 0, i64 0, i64 0, i64 0, .list 4 []] : List (List D)) = (List.replicate l.length rp0).map Rp.c by rw [List.map_replicate]; rfl]
          exact S1
        clear hA hA1
        have L1 : (List.drop ((k : Nat) : Int).toNat (List.take ((A.length : Nat) : Int).toNat A)).length ≤ 1000000 := by rw [List.length_drop, List.length_take]; omega
        have L2 : (List.drop ((k : Nat) : Int).toNat (List.take ((A.length : Nat) : Int).toNat A) ++ List.drop (Int.toNat 0) (List.take ((k : Nat) : Int).toNat A)).length ≤ 1000000 := by rw [List.length_append, List.length_drop, List.length_take, List.length_drop, List.length_take]; omega
        repeat' ((conv => whnf); first | (with_reducible first | refine br_t ?_ | refine br_f ?_ | refine za ?_ | refine zg ?_ | refine zo ?_ | refine zb ?_ | refine zm ?_ | refine zc ?_ | refine ze ?_) | (rw [ol]; omega) | (rw [hAl]; omega) | ((with_reducible refine bc_t ?_ ?_); (first | omega | decide)) | ((with_reducible refine bc_f ?_ ?_); (first | omega | decide)) | (with_reducible first | refine bc (fun h => ?_) (fun h => ?_) | refine zt ?_ | refine zf ?_ | refine br_i (fun h => ?_) (fun h => ?_)) | refine zg ?_ | refine zi ?_)
        all_goals conv => whnf
        all_goals rfl
      · rw [show newV n d = (md0, askd n d) by unfold newV; rw [if_neg hn]] at N1
        generalize askd n d = z at *
        generalize hA : (l.map putA).map Ak.c = A at *
        have hAl : A.length = l.length := by rw [← hA]; simp
        have L1 : (List.drop ((k : Nat) : Int).toNat (List.take ((A.length : Nat) : Int).toNat A)).length ≤ 1000000 := by rw [List.length_drop, List.length_take]; omega
        have L2 : (List.drop ((k : Nat) : Int).toNat (List.take ((A.length : Nat) : Int).toNat A) ++ List.drop (Int.toNat 0) (List.take ((k : Nat) : Int).toNat A)).length ≤ 1000000 := by rw [List.length_append, List.length_drop, List.length_take, List.length_drop, List.length_take]; omega
        simp only [retN, md0] at N1
        repeat' ((conv => whnf); first | (with_reducible first | refine br_t ?_ | refine br_f ?_ | refine za ?_ | refine zg ?_ | refine zo ?_ | refine zb ?_ | refine zm ?_ | refine zc ?_ | refine ze ?_) | (rw [ol]; omega) | (rw [hAl]; omega) | ((with_reducible refine bc_t ?_ ?_); (first | omega | decide)) | ((with_reducible refine bc_f ?_ ?_); (first | omega | decide)) | (with_reducible first | refine bc (fun h => ?_) (fun h => ?_) | refine zt ?_ | refine zf ?_ | refine br_i (fun h => ?_) (fun h => ?_)) | refine zg ?_ | refine zi ?_)
        all_goals conv => whnf
        all_goals rfl
  · refine fn_ok (by kernel_rfl) (ty_okK [9, 83, 88] [] [] []) Tryz.func4 rfl (fun _ _ => Tryz.call4 _ _) rfl ?_
    intro hw
    simp only [WDCs, WDC, WDs] at hw
    have w1 := (wd_pts hw.1).1
    have w2 := wd_aks hw.2.2.2.1
    clear hw
    repeat' ((conv => whnf); first | (with_reducible first | refine br_t ?_ | refine br_f ?_ | refine za ?_ | refine zg ?_ | refine zo ?_ | refine zb ?_ | refine zm ?_ | refine zc ?_ | refine ze ?_) | (rw [ol]; omega) | (rw [oa]; omega) | ((with_reducible refine bc_t ?_ ?_); (first | omega | decide)) | ((with_reducible refine bc_f ?_ ?_); (first | omega | decide)) | (with_reducible first | refine bc (fun h => ?_) (fun h => ?_) | refine zt ?_ | refine zf ?_ | refine br_i (fun h => ?_) (fun h => ?_)) | refine zg ?_ | refine zi ?_)
    all_goals conv => whnf
    all_goals rfl
end Go.Proofs.YtnhljlihchegjaaGreat

/- OracleAlike answers true for every points, time, index and asks, and leaves its arguments as they are. No condition. -/
namespace Go.Proofs.YtnhljlihchegjaaGreat
open Go.RowKit Go.ChangeShapes Go.WideShapes Go.ChangeAt Sx
theorem oracleAlike_own : ownKnob Tryz.prog.godebug = none := by kernel_rfl
set_option maxRecDepth 100000 in
theorem oracleAlike_lifted (os : Os) (started : os.Started) (H : Type) (enc : TypeId × Value → H) :
    ReturnsInHanded {} Tryz.checked os 4 .any (Rows.oracleAlikeSpec.pre6 enc Tryz.prog Tryz.f4 Rows.oracleAlikeRow.domain false) (Rows.oracleAlikeSpec.post enc Tryz.prog Tryz.f4 false true false false) := by
  refine returnsInHanded_of_change (C := Tryz.checked) oracleAlike_own started (by kernel_rfl) Tryz.func4
    (ChangeSpec.witness6 (enc := enc) (C := Tryz.checked) false ⟨#[], #[.slice none 0 0, .agg #[.int .i64 0, .int .i64 0], .int .i64 0, .slice none 0 0], []⟩ 12 (by kernel_rfl) (by kernel_rfl) (by kernel_rfl) (by kernel_rfl)) ?_
  intro W base args ds gs before hval0 hW hcnd _
  have hval : ∀ (j : Nat) t v, Tryz.f4.params[j]? = some t → args[j]? = some v → Value.okWide Tryz.prog W .any base t v := hval0
  have hW' := hW
  obtain ⟨p, q, hA0, hV, rfl, hfz, hnd⟩ := hW
  have hA : DataW.TrodAll enc Tryz.prog W 0 (fun _ => true) true Tryz.f4.params.toList args.toList ds p := hA0
  rw [Tryz.params4] at hA hval
  obtain ⟨v0, vs0, d0, ds0, p0, q0, hargs, rfl, rfl, h0, r0⟩ := trodAll_cons hA
  obtain ⟨v1, vs1, d1, ds1, p1, q1, rfl, rfl, rfl, h1, r1⟩ := trodAll_cons r0
  obtain ⟨v2, vs2, d2, ds2, p2, q2, rfl, rfl, rfl, h2, r2⟩ := trodAll_cons r1
  obtain ⟨v3, vs3, d3, ds3, p3, q3, rfl, rfl, rfl, h3, r3⟩ := trodAll_cons r2
  obtain ⟨rfl, rfl, rfl⟩ := trodAll_nil r3
  obtain rfl : args = #[v0, v1, v2, v3] := by cases args; simp_all
  obtain ⟨e0, hd0, hf0⟩ := arg_data (tyB_ok (s := shPoints) (by kernel_rfl)) (hval 0 24 v0 rfl rfl) h0
  obtain ⟨x0, rfl⟩ := fit_points hf0
  obtain ⟨e1, hd1, hf1⟩ := arg_data (tyB_ok (s := shRatio) (by kernel_rfl)) (hval 1 23 v1 rfl rfl) h1
  obtain ⟨x1, x2, rfl⟩ := fit_ratio hf1
  obtain ⟨e2, hd2, hf2⟩ := arg_data (tyB_ok (s := shInt) (by kernel_rfl)) (hval 2 3 v2 rfl rfl) h2
  obtain ⟨x3, rfl⟩ := fit_int hf2
  obtain ⟨e3, hd3, hf3⟩ := arg_data (tyB_ok (s := shAsks) (by kernel_rfl)) (hval 3 52 v3 rfl rfl) h3
  obtain ⟨x4, rfl⟩ := fit_asks hf3
  refine (law_of_fn (vs := [v0, v1, v2, v3]) (fun _ _ => Tryz.call4 _ _) (LAlike_fn x0 x1 x2 x3 x4) ⟨hd0, hd1, hd2, hd3, trivial⟩).mono fun e W' ⟨he, hb⟩ => ?_
  subst he
  exact ⟨_, rfl, law_post (by kernel_rfl) (by kernel_rfl) rfl Tryz.underlying4 rfl hW' ⟨rfl, rfl, rfl⟩ hb⟩
theorem oracleAlike_over : Rows.oracleAlikeRow.holds Tryz.pinned (OpenSpec.ofChange Rows.oracleAlikeSpec) :=
  OpenClaim.holds_of_wide 4 Tryz.f4 rfl rfl rfl rfl rfl rfl rfl ⟨rfl, rfl, rfl, rfl, rfl⟩ rfl rfl rfl rfl rfl (by kernel_rfl) Tryz.func4 (by kernel_rfl)
    (of_decide_eq_true (by kernel_rfl)) (by unfold Func.isWrapper; rw [if_neg (of_decide_eq_false (by kernel_rfl))]; exact ⟨rfl, rfl⟩)
    (fun os started H enc _ => oracleAlike_lifted os started H enc)
/-- the statement -/
theorem oracleAlike_proved : Rows.OracleAlikeSaid := oracleAlike_over
#print axioms oracleAlike_proved
end Go.Proofs.YtnhljlihchegjaaGreat
