import Derived.Test.YtgdpogdgpfjnoaaGreatDoorGLTRepliesAQ
import Derived.Test.YtgdpogdgpfjnoaaGreatDoorGLTRepliesAS
import Derived.Test.YtgdpogdgpfjnoaaGreatDoorGLTRepliesAU
import Derived.Test.YtgdpogdgpfjnoaaGreatDoorGLTRepliesAT
import Derived.Test.YtgdpogdgpfjnoaaGreatDoorGLTRepliesAN
set_option linter.all false
namespace Go.Proofs.YtgdpogdgpfjnoaaGreatDoor
open Go Go.RowKit Go.Sort Sx
open Go.Lib hiding intOf
theorem joined_fn (word : Str) (ps : List Pp) (hw : word.length ≤ 100) (hl : ps.length ≤ 9000) (hok : ∀ p ∈ ps, p.ok) : FnOK Tryz.prog 42 [.one (str word), .one (.list 1 (ps.map fun p => [.v p.v]))] (.c (.one (str (joinS (word :: ps.map Pp.s))))) := by
  refine fun w M vs hM hvs => .inl ⟨42, Tryz.call42 _ _, ?_⟩
  match vs, hvs with
  | [u, v], hvs =>
    obtain ⟨h1, h2, _⟩ := hvs
    have h1 := rep_str h1
    subst h1
    exact (joined_any word ps hw hl hok w hM.gd v (h2.mono (Holds.refl _ _) (fun _ _ h => h.elim))).mono fun e w' ⟨he, hb⟩ => ⟨_, he, .v _ rfl trivial, hb⟩
  | [], hvs => exact hvs.elim
  | [_], hvs => exact hvs.2.elim
  | _ :: _ :: _ :: _, hvs => exact hvs.2.2.elim
theorem po_mi {o : Oper} {t : TypeId} {x : Operand} {u : Value} {td : TypeDesc} (ho : o.op = .makeInterface t x) (ht : Tryz.prog.underlying t = some td) (hn : ∀ y, td ≠ .interface y) : PureOp Tryz.prog o [u] (.iface t u) := by
  refine ⟨rfl, trivial, fun f hf w => ?_⟩
  rw [ho] at hf
  simp only [Op.operands, List.map_cons, List.map_nil, List.cons.injEq, and_true] at hf
  have e : (Instr.makeInterface t u).run Tryz.prog w = .ok (.iface t u) w := by
    unfold Instr.makeInterface
    rw [Sem.run_bind, run_underlying ht]
    cases td <;> first | exact absurd rfl (hn _) | (simp [go_sem])
  simp [execOp, ho, hf, e, Result.andThen]
theorem zmi {o : Oper} {x : Operand} {u : Value} {K : Value → Prop} (k : K (.iface 3 u)) (ho : o.op = .makeInterface 3 x := by rfl) : ∃ v, PureOp Tryz.prog o [u] v ∧ K v := ⟨_, po_mi ho Tryz.underlying3 (fun _ h => by cases h), k⟩
theorem zml {o : Oper} {x : Operand} {u : Value} {K : Value → Prop} (k : K (.iface 2 u)) (ho : o.op = .makeInterface 2 x := by rfl) : ∃ v, PureOp Tryz.prog o [u] v ∧ K v := ⟨_, po_mi ho Tryz.underlying2 (fun _ h => by cases h), k⟩
theorem zmr {o : Oper} {x : Operand} {u : Value} {K : Value → Prop} (k : K (.iface 25 u)) (ho : o.op = .makeInterface 25 x := by rfl) : ∃ v, PureOp Tryz.prog o [u] v ∧ K v := ⟨_, po_mi ho Tryz.underlying25 (fun _ h => by cases h), k⟩
def mParts (m : Mt) : List Pp := [.r m.n m.d, .i m.i, .i m.j]
theorem parts_words : ∀ l : List Mt, (l.flatMap mParts).map Pp.s = l.flatMap mWords
  | [] => rfl
  | m :: l => by rw [List.flatMap_cons, List.map_append, parts_words l]; rfl
theorem parts_len : ∀ l : List Mt, (l.flatMap mParts).length = 3 * l.length
  | [] => rfl
  | m :: l => by rw [List.flatMap_cons, List.length_append, parts_len l, List.length_cons]; show 3 + _ = _; omega
abbrev pds (l : List Pp) : List (List Sx.D) := l.map fun p => [.v p.v]
theorem pds_app (a b : List Pp) : pds (a ++ b) = pds a ++ pds b := List.map_append ..
theorem joinS_text {r : Rp} {w : Str} {ps : List Pp} (h : rWords r = w :: ps.map Pp.s) : joinS (w :: ps.map Pp.s) = rText r := by unfold rText; rw [h]
set_option maxRecDepth 100000 in
set_option maxHeartbeats 4000000 in
theorem tReply_fn (r : Rp) (hl0 : r.ms.length ≤ 1000000) : FnOK Tryz.prog 11 [r.dc] (retS (replyV r)) := by
  have HC := tCheck_fn r hl0
  unfold replyV
  rcases rchk_08 r with h0 | h8
  · rw [if_pos h0]
    rw [h0] at HC
    rcases rchk_cases h0 with ⟨h1, h2, h3⟩ | ⟨h1, h2, h3⟩ | ⟨h0, h1, h2, h3, h4⟩ | ⟨h0, h1, h2, h3, h4, h5, h6⟩ | h1
    · have hE := words_e (show r.e ≠ 0 by omega)
      have J := joined_fn wErr [.i r.e] (by decide) (by simp) (fun p hp => by obtain rfl := List.mem_singleton.1 hp; exact ⟨by omega, by omega⟩)
      rw [joinS_text (r := rpE r.e) (by rw [hE]; rfl), ← h3] at J
      obtain ⟨T, hT⟩ : ∃ T, T = rText r := ⟨_, rfl⟩
      rw [← hT] at J ⊢
      replace J : FnOK Tryz.prog 42 [.one (str [101, 114, 114, 111, 114]), .one (.list 1 [[.v (.iface 3 (.int .i64 r.e))]])] (.c (.one (str T))) := J
      clear hT h3 hE
      obtain ⟨e, i, j, n, d, l⟩ := r
      simp only [Rp.dc] at *
      refine fn_ok (by kernel_rfl) (ty_okKB [] [] [] []) Tryz.func11 rfl (fun _ _ => Tryz.call11 _ _) rfl ?_
      intro hw
      clear hw
      repeat' ((conv => whnf); first | (with_reducible first | refine br_t ?_ | refine br_f ?_ | refine za ?_ | refine zg ?_) | refine zmi ?_ | refine zml ?_ | refine zmr ?_ | refine zsl ?_ | refine zsg ?_ | refine zss ?_ | refine zs1 ?_ | refine zse ?_ | refine zsn ?_ | refine zsc ?_ | (with_reducible first | refine zpa ?_ | refine zqa ?_) | refine zp ?_ | refine zq ?_ | (with_reducible first | refine bc (fun h => ?_) (fun h => ?_) | refine zt ?_ | refine zf ?_ | refine br_i (fun h => ?_) (fun h => ?_)) | refine zg ?_ | refine zi ?_ | refine zb ?_)
      all_goals conv => whnf
      all_goals rfl
    · have hM := words_m h1
      have hp : 0 < r.ms.length := List.length_pos_iff.2 h1
      have hll : (r.ms.map Mt.c).length = r.ms.length := List.length_map ..
      have hle : r.ms.length ≤ 2016 := by unfold mtR at h2; simp only [Bool.and_eq_true, decide_eq_true_eq] at h2; exact h2.2
      have hmo := mRun_ok (p := none) (l := r.ms) (by unfold mtR at h2; simp only [Bool.and_eq_true] at h2; exact h2.1)
      have hT0 : joinS (wMeet :: (r.ms.flatMap mParts).map Pp.s) = rText r := joinS_text (by rw [h3, hM, parts_words])
      obtain ⟨T, hT⟩ : ∃ T, T = rText r := ⟨_, rfl⟩
      rw [← hT] at hT0 ⊢
      clear hT hM h2 h0
      rw [h3] at HC ⊢
      generalize r.ms = l at *
      clear h3 r
      simp only [Rp.dc] at *
      refine fn_ok (by kernel_rfl) (ty_okKB [5, 45] [] [] []) Tryz.func11 rfl (fun _ _ => Tryz.call11 _ _) rfl ?_
      intro hw
      have hwl : ∀ m ∈ l, in64 m.n ∧ in64 m.d := fun m hm => by
        have h := hw.1.2.2.2.2.2.1
        obtain ⟨_, _, h3⟩ := WD_list.1 h
        have h4 := h3 m.c (List.mem_map_of_mem hm)
        exact ⟨wd_i64.1 (h4 _ (by simp [Mt.c])), wd_i64.1 (h4 _ (by simp [Mt.c]))⟩
      clear hw
      have hpl := parts_len l
      have J := joined_fn wMeet (l.flatMap mParts) (by decide) (by omega) (fun p hp => by
        obtain ⟨m, hm, hp⟩ := List.mem_flatMap.1 hp
        obtain ⟨c1, c2, c3, c4⟩ := mOk_i.1 (hmo m hm)
        unfold mParts at hp
        simp only [List.mem_cons, List.not_mem_nil, or_false] at hp
        rcases hp with rfl | rfl | rfl
        · exact hwl m hm
        · exact ⟨by omega, by omega⟩
        · exact ⟨by omega, by omega⟩)
      rw [hT0] at J
      have J2 : FnOK Tryz.prog 42 [.one (str [109, 101, 101, 116, 105, 110, 103, 115]), .one (.list 1 (pds ((l.take l.length).flatMap mParts)))] (.c (.one (str T))) := by rw [List.take_length]; exact J
      clear J hT0
      repeat' ((conv => whnf); first | (with_reducible first | refine br_t ?_ | refine br_f ?_ | refine za ?_ | refine zg ?_ | refine zo ?_) | refine zsl ?_ | refine zsg ?_ | refine zss ?_ | refine zs1 ?_ | refine zse ?_ | refine zsn ?_ | refine zsc ?_ | (with_reducible first | refine zpa ?_ | refine zqa ?_) | refine zp ?_ | refine zq ?_ | (with_reducible first | refine bc (fun h => ?_) (fun h => ?_) | refine zt ?_ | refine zf ?_ | refine br_i (fun h => ?_) (fun h => ?_)) | refine zg ?_ | refine zi ?_ | refine zb ?_ | refine zl ?_)
      all_goals conv => whnf
      refine loop_J (by kernel_rfl) (ty_okKB [5, 45] [] [] []) (σ := Nat) (fun i => [(30, sV (.int .i64 (i : Nat))), (5, .c (.at (.osl 5 0)))]) (fun i => [(5, .row 1 (pds ((l.take i).flatMap mParts)) 0)]) (fun i => i ≤ l.length) (fun i => l.length - i) 0 (Nat.zero_le _) ?_ ?_
      · (conv => whnf); refine ⟨by repeat' (first | with_reducible exact zE0 | with_reducible refine zE1 ?_ ?_ | rfl | assumption | (rfl) | exact zi1 | exact zb1), by repeat' (first | with_reducible exact zH0 | with_reducible refine zH1 ?_ ?_ | rfl | assumption | (rfl)), rfl⟩
      intro i hi
      have hpi := parts_len (l.take i)
      have hti : (l.take i).length = i := by rw [List.length_take]; omega
      have hol : (pds ((l.take i).flatMap mParts)).length = 3 * i := by rw [List.length_map, hpi, hti]
      rcases Nat.lt_or_ge i l.length with hlt | hge
      · have hel := mts_get hlt
        have ew : IntKind.i64.wrap ((i : Int) + 1) = ((i + 1 : Nat) : Int) := by rw [IntWalk.i64_in _ (by omega)]; omega
        have hss : pds ((l.take i).flatMap mParts) ++ ([[D.v (.iface 25 (.agg #[.int .i64 l[i].n, .int .i64 l[i].d]))], [D.v (.iface 3 (.int .i64 l[i].i))], [D.v (.iface 3 (.int .i64 l[i].j))]] : List (List Sx.D)) = pds ((l.take (i + 1)).flatMap mParts) := by
          rw [List.take_succ_eq_append_getElem hlt, List.flatMap_append, pds_app]; rfl
        have hol2 : (pds ((l.take i).flatMap mParts) ++ ([[D.v (.iface 25 (.agg #[.int .i64 l[i].n, .int .i64 l[i].d]))], [D.v (.iface 3 (.int .i64 l[i].i))], [D.v (.iface 3 (.int .i64 l[i].j))]] : List (List Sx.D))).length ≤ 1000000 := by rw [List.length_append, hol]; simp; omega
        clear J2 hmo hwl
        generalize l[i] = m at *
        obtain ⟨m1, m2, m3, m4⟩ := m
        simp only at hel hss hol2
        repeat' ((conv => whnf); first | (with_reducible first | refine br_t ?_ | refine br_f ?_ | refine za ?_ | refine zg ?_ | refine zo ?_) | refine zmi ?_ | refine zml ?_ | refine zmr ?_ | exact hol2 | refine zsl ?_ | refine zsg ?_ | refine zss ?_ | refine zs1 ?_ | refine zse ?_ | refine zsn ?_ | refine zsc ?_ | (with_reducible first | refine zpa ?_ | refine zqa ?_) | refine zp ?_ | refine zq ?_ | (with_reducible first | refine bc (fun h => ?_) (fun h => ?_) | refine zt ?_ | refine zf ?_ | refine br_i (fun h => ?_) (fun h => ?_)) | refine zg ?_ | refine zi ?_ | refine zb ?_ | refine zl ?_)
        all_goals conv => whnf
        refine ⟨i + 1, by omega, ?_, by omega⟩
        rw [← ew]
        (conv => whnf); refine ⟨by repeat' (first | with_reducible exact zE0 | with_reducible refine zE1 ?_ ?_ | rfl | assumption | ((exact congrArg (fun x => some (Blk.row 1 x 0)) hss)) | exact zi1 | exact zb1), by repeat' (first | with_reducible exact zH0 | with_reducible refine zH1 ?_ ?_ | rfl | assumption | ((exact congrArg (fun x => some (Blk.row 1 x 0)) hss))), rfl⟩
      · obtain rfl : i = l.length := by omega
        obtain ⟨a, b, hab⟩ : ∃ a b, pds ((l.take l.length).flatMap mParts) = a :: b := by
          cases hc : pds ((l.take l.length).flatMap mParts) with
          | nil => rw [hc] at hol; simp at hol; omega
          | cons a b => exact ⟨a, b, rfl⟩
        rw [hab] at J2 ⊢
        repeat' ((conv => whnf); first | (with_reducible first | refine br_t ?_ | refine br_f ?_ | refine za ?_ | refine zg ?_ | refine zo ?_) | refine zl ?_ J2 | refine zsl ?_ | refine zsg ?_ | refine zss ?_ | refine zs1 ?_ | refine zse ?_ | refine zsn ?_ | refine zsc ?_ | (with_reducible first | refine zpa ?_ | refine zqa ?_) | refine zp ?_ | refine zq ?_ | (with_reducible first | refine bc (fun h => ?_) (fun h => ?_) | refine zt ?_ | refine zf ?_ | refine br_i (fun h => ?_) (fun h => ?_)) | refine zg ?_ | refine zi ?_ | refine zb ?_ | refine zl ?_)
        all_goals conv => whnf
        all_goals rfl
    · have hE := words_l (i := r.i) (n := r.n) h0
      have J : (in64 r.n ∧ in64 r.d) → FnOK Tryz.prog 42 [.one (str wLeader), .one (.list 1 (([.i r.i, .r r.n r.d] : List Pp).map fun p => [.v p.v]))] (.c (.one (str (joinS (wLeader :: ([.i r.i, .r r.n r.d] : List Pp).map Pp.s))))) := fun hin => joined_fn wLeader [.i r.i, .r r.n r.d] (by decide) (by simp) (fun p hp => by
        simp only [List.mem_cons, List.not_mem_nil, or_false] at hp
        rcases hp with rfl | rfl
        · exact ⟨by omega, by omega⟩
        · exact hin)
      rw [joinS_text (r := ⟨0, r.i, 0, r.n, r.d, []⟩) (by rw [hE]; rfl), ← h4] at J
      obtain ⟨T, hT⟩ : ∃ T, T = rText r := ⟨_, rfl⟩
      rw [← hT] at J ⊢
      clear hT hE
      obtain ⟨e, i, j, n, d, l⟩ := r
      simp only [Rp.mk.injEq, true_and] at h4
      obtain ⟨rfl, rfl, rfl⟩ := h4
      simp only [Rp.dc] at *
      replace HC : FnOK Tryz.prog 12 [.agg [i64 0, i64 i, i64 0, i64 n, i64 d, .list 4 []]] (ret1 0) := HC
      show FnOK Tryz.prog 11 [.agg [i64 0, i64 i, i64 0, i64 n, i64 d, .list 4 []]] _
      refine fn_ok (by kernel_rfl) (ty_okKB [] [] [] []) Tryz.func11 rfl (fun _ _ => Tryz.call11 _ _) rfl ?_
      intro hw
      have hw1 : in64 n ∧ in64 d := by
        simp only [WDCs, WDC, WDs, wd_i64] at hw
        unfold in64; omega
      clear hw
      replace J : FnOK Tryz.prog 42 [.one (str [108, 101, 97, 100, 101, 114]), .one (.list 1 [[.v (.iface 3 (.int .i64 i))], [.v (.iface 25 (.agg #[.int .i64 n, .int .i64 d]))]])] (.c (.one (str T))) := J hw1
      repeat' ((conv => whnf); first | (with_reducible first | refine br_t ?_ | refine br_f ?_ | refine za ?_ | refine zg ?_) | refine zmi ?_ | refine zml ?_ | refine zmr ?_ | refine zsl ?_ | refine zsg ?_ | refine zss ?_ | refine zs1 ?_ | refine zse ?_ | refine zsn ?_ | refine zsc ?_ | (with_reducible first | refine zpa ?_ | refine zqa ?_) | refine zp ?_ | refine zq ?_ | (with_reducible first | refine bc (fun h => ?_) (fun h => ?_) | refine zt ?_ | refine zf ?_ | refine br_i (fun h => ?_) (fun h => ?_)) | refine zg ?_ | refine zi ?_ | refine zb ?_)
      all_goals conv => whnf
      all_goals rfl
    · have hE := words_p (i := r.i) (j := r.j) (n := r.n) h0 (by omega)
      have J : (in64 r.n ∧ in64 r.d) → FnOK Tryz.prog 42 [.one (str wPair), .one (.list 1 (([.i r.i, .i r.j, .r r.n r.d] : List Pp).map fun p => [.v p.v]))] (.c (.one (str (joinS (wPair :: ([.i r.i, .i r.j, .r r.n r.d] : List Pp).map Pp.s))))) := fun hin => joined_fn wPair [.i r.i, .i r.j, .r r.n r.d] (by decide) (by simp) (fun p hp => by
        simp only [List.mem_cons, List.not_mem_nil, or_false] at hp
        rcases hp with rfl | rfl | rfl
        · exact ⟨by omega, by omega⟩
        · exact ⟨by omega, by omega⟩
        · exact hin)
      rw [joinS_text (r := ⟨0, r.i, r.j, r.n, r.d, []⟩) (by rw [hE]; rfl), ← h6] at J
      obtain ⟨T, hT⟩ : ∃ T, T = rText r := ⟨_, rfl⟩
      rw [← hT] at J ⊢
      clear hT hE
      obtain ⟨e, i, j, n, d, l⟩ := r
      simp only [Rp.mk.injEq, true_and] at h6
      obtain ⟨rfl, rfl⟩ := h6
      simp only at h0 h1 h2 h3 h4 h5
      simp only [Rp.dc] at *
      replace HC : FnOK Tryz.prog 12 [.agg [i64 0, i64 i, i64 j, i64 n, i64 d, .list 4 []]] (ret1 0) := HC
      show FnOK Tryz.prog 11 [.agg [i64 0, i64 i, i64 j, i64 n, i64 d, .list 4 []]] _
      refine fn_ok (by kernel_rfl) (ty_okKB [] [] [] []) Tryz.func11 rfl (fun _ _ => Tryz.call11 _ _) rfl ?_
      intro hw
      have hw1 : in64 n ∧ in64 d := by
        simp only [WDCs, WDC, WDs, wd_i64] at hw
        unfold in64; omega
      clear hw
      replace J : FnOK Tryz.prog 42 [.one (str [112, 97, 105, 114]), .one (.list 1 [[.v (.iface 3 (.int .i64 i))], [.v (.iface 3 (.int .i64 j))], [.v (.iface 25 (.agg #[.int .i64 n, .int .i64 d]))]])] (.c (.one (str T))) := J hw1
      repeat' ((conv => whnf); first | (with_reducible first | refine br_t ?_ | refine br_f ?_ | refine za ?_ | refine zg ?_) | refine zmi ?_ | refine zml ?_ | refine zmr ?_ | refine zsl ?_ | refine zsg ?_ | refine zss ?_ | refine zs1 ?_ | refine zse ?_ | refine zsn ?_ | refine zsc ?_ | (with_reducible first | refine zpa ?_ | refine zqa ?_) | refine zp ?_ | refine zq ?_ | (with_reducible first | refine bc (fun h => ?_) (fun h => ?_) | refine zt ?_ | refine zf ?_ | refine br_i (fun h => ?_) (fun h => ?_)) | refine zg ?_ | refine zi ?_ | refine zb ?_)
      all_goals conv => whnf
      all_goals rfl
    · subst h1
      replace HC : FnOK Tryz.prog 12 [.agg [i64 0, i64 0, i64 0, i64 0, i64 0, .list 4 []]] (ret1 0) := HC
      show FnOK Tryz.prog 11 [.agg [i64 0, i64 0, i64 0, i64 0, i64 0, .list 4 []]] (retS ([100, 111, 110, 101], 0))
      refine fn_ok (by kernel_rfl) (ty_okKB [] [] [] []) Tryz.func11 rfl (fun _ _ => Tryz.call11 _ _) rfl ?_
      intro hw
      clear hw
      repeat' ((conv => whnf); first | (with_reducible first | refine br_t ?_ | refine br_f ?_ | refine za ?_ | refine zg ?_) | refine zmi ?_ | refine zml ?_ | refine zmr ?_ | refine zsl ?_ | refine zsg ?_ | refine zss ?_ | refine zs1 ?_ | refine zse ?_ | refine zsn ?_ | refine zsc ?_ | (with_reducible first | refine zpa ?_ | refine zqa ?_) | refine zp ?_ | refine zq ?_ | (with_reducible first | refine bc (fun h => ?_) (fun h => ?_) | refine zt ?_ | refine zf ?_ | refine br_i (fun h => ?_) (fun h => ?_)) | refine zg ?_ | refine zi ?_ | refine zb ?_)
      all_goals conv => whnf
      all_goals rfl
  · rw [if_neg (by omega)]
    rw [h8] at HC
    obtain ⟨e, i, j, n, d, l⟩ := r
    simp only [Rp.dc] at *
    refine fn_ok (by kernel_rfl) (ty_okKB [] [] [] []) Tryz.func11 rfl (fun _ _ => Tryz.call11 _ _) rfl ?_
    intro hw
    clear hw
    repeat' ((conv => whnf); first | (with_reducible first | refine br_t ?_ | refine br_f ?_ | refine za ?_ | refine zg ?_) | refine zsl ?_ | refine zsg ?_ | refine zss ?_ | refine zs1 ?_ | refine zse ?_ | refine zsn ?_ | refine zsc ?_ | (with_reducible first | refine zpa ?_ | refine zqa ?_) | refine zp ?_ | refine zq ?_ | (with_reducible first | refine bc (fun h => ?_) (fun h => ?_) | refine zt ?_ | refine zf ?_ | refine br_i (fun h => ?_) (fun h => ?_)) | refine zg ?_ | refine zi ?_ | refine zb ?_)
    all_goals conv => whnf
    all_goals rfl
end Go.Proofs.YtgdpogdgpfjnoaaGreatDoor

namespace Go.Proofs.YtgdpogdgpfjnoaaGreatDoor
open Go Go.RowKit Go.Sort Sx
open Go.Lib hiding intOf
theorem tReadReply_fn (s : Str) (hs : s.length ≤ 999999) : FnOK Tryz.prog 16 [.one (str s)] (retRp (rreadP s)) := by
  unfold rreadP
  by_cases hb : 110000 < s.length
  · rw [if_pos hb]
    simp only [retRp, Rp.dc, rp0, mts, List.map_nil]
    refine fn_ok (by kernel_rfl) ty_ok Tryz.func16 rfl (fun _ _ => Tryz.call16 _ _) rfl ?_
    intro hw
    clear hw
    repeat' ((conv => whnf); first | (with_reducible first | refine br_t ?_ | refine br_f ?_ | refine za ?_ | refine zg ?_) | refine zsl ?_ | refine zsg ?_ | refine zss ?_ | refine zs1 ?_ | refine zse ?_ | refine zsn ?_ | refine zsc ?_ | (with_reducible first | refine zpa ?_ | refine zqa ?_) | refine zp ?_ | refine zq ?_ | (with_reducible first | refine bc (fun h => ?_) (fun h => ?_) | refine zt ?_ | refine zf ?_ | refine br_i (fun h => ?_) (fun h => ?_)) | refine zg ?_ | refine zi ?_ | refine zb ?_)
    all_goals conv => whnf
    all_goals rfl
  rw [if_neg hb]
  have Hs : FnOK Tryz.prog 48 [.one (str s), .one (str [32])] (.c (.one (strs (spl 32 s)))) := split_fn (s := s) (c := 32) (by omega)
  have hl1 := spl_len 32 s
  have hl2 := spl_each 32 s
  obtain ⟨w0, t, hL⟩ : ∃ w0 t, spl 32 s = w0 :: t := by
    cases h : spl 32 s with
    | nil => exact absurd h (spl_ne 32 s)
    | cons a b => exact ⟨a, b, rfl⟩
  unfold rrdP
  rw [hL] at Hs hl1 hl2 ⊢
  simp only [List.headD_cons, List.tail_cons]
  have hlt : t.length ≤ 1000000 := by simp only [List.length_cons] at hl1; omega
  obtain ⟨X, b, hX0, hX, Hr⟩ := tread_fn w0 t hlt fun x hx => Nat.le_trans (hl2 x (List.mem_cons_of_mem _ hx)) (by omega)
  rw [hX]
  clear hX hl1 hl2 hL
  cases b
  · rw [if_neg (by decide), show backR s none = (rp0, 12) from rfl]
    obtain ⟨e, i, j, n, d, l⟩ := X
    simp only [retRb, retRp, Rp.dc, rp0, mts, List.map_nil] at Hr ⊢
    refine fn_ok (by kernel_rfl) ty_ok Tryz.func16 rfl (fun _ _ => Tryz.call16 _ _) rfl ?_
    intro hw
    clear hw
    repeat' ((conv => whnf); first | (with_reducible first | refine br_t ?_ | refine br_f ?_ | refine za ?_ | refine zg ?_) | refine zsl ?_ | refine zsg ?_ | refine zss ?_ | refine zs1 ?_ | refine zse ?_ | refine zsn ?_ | refine zsc ?_ | (with_reducible first | refine zpa ?_ | refine zqa ?_) | refine zp ?_ | refine zq ?_ | (with_reducible first | refine bc (fun h => ?_) (fun h => ?_) | refine zt ?_ | refine zf ?_ | refine br_i (fun h => ?_) (fun h => ?_)) | refine zg ?_ | refine zi ?_ | refine zb ?_)
    all_goals conv => whnf
    all_goals rfl
  · rw [if_pos rfl]
    have Ht := tReply_fn X hX0
    unfold replyV at Ht
    rcases br_cases X s with ⟨h1, h2, h⟩ | ⟨h1, h2, h⟩ | ⟨h1, h⟩
    · rw [if_pos h1, h2] at Ht
      rw [h]
      clear h h1 h2
      obtain ⟨e, i, j, n, d, l⟩ := X
      simp only [retRb, retRp, Rp.dc, retS] at Hr Ht ⊢
      refine fn_ok (by kernel_rfl) ty_ok Tryz.func16 rfl (fun _ _ => Tryz.call16 _ _) rfl ?_
      intro hw
      clear hw
      repeat' ((conv => whnf); first | (with_reducible first | refine br_t ?_ | refine br_f ?_ | refine za ?_ | refine zg ?_) | refine zsl ?_ | refine zsg ?_ | refine zss ?_ | refine zs1 ?_ | refine zse ?_ | refine zsn ?_ | refine zsc ?_ | (with_reducible first | refine zpa ?_ | refine zqa ?_) | refine zp ?_ | refine zq ?_ | (with_reducible first | refine bc (fun h => ?_) (fun h => ?_) | refine zt ?_ | refine zf ?_ | refine br_i (fun h => ?_) (fun h => ?_)) | refine zg ?_ | refine zi ?_ | refine zb ?_)
      all_goals conv => whnf
      all_goals first | rfl | contradiction
    · rw [if_pos h1] at Ht
      rw [h]
      obtain ⟨T, hT⟩ : ∃ T, T = rText X := ⟨_, rfl⟩
      rw [← hT] at h2 Ht
      clear h h1 hT
      obtain ⟨e, i, j, n, d, l⟩ := X
      simp only [retRb, retRp, Rp.dc, retS, rp0, mts, List.map_nil] at Hr Ht ⊢
      refine fn_ok (by kernel_rfl) ty_ok Tryz.func16 rfl (fun _ _ => Tryz.call16 _ _) rfl ?_
      intro hw
      clear hw
      repeat' ((conv => whnf); first | (with_reducible first | refine br_t ?_ | refine br_f ?_ | refine za ?_ | refine zg ?_) | refine zsl ?_ | refine zsg ?_ | refine zss ?_ | refine zs1 ?_ | refine zse ?_ | refine zsn ?_ | refine zsc ?_ | (with_reducible first | refine zpa ?_ | refine zqa ?_) | refine zp ?_ | refine zq ?_ | (with_reducible first | refine bc (fun h => ?_) (fun h => ?_) | refine zt ?_ | refine zf ?_ | refine br_i (fun h => ?_) (fun h => ?_)) | refine zg ?_ | refine zi ?_ | refine zb ?_)
      all_goals conv => whnf
      all_goals first | rfl | contradiction
    · rw [if_neg (by omega)] at Ht
      rw [h]
      clear h h1
      obtain ⟨e, i, j, n, d, l⟩ := X
      simp only [retRb, retRp, Rp.dc, retS, rp0, mts, List.map_nil] at Hr Ht ⊢
      refine fn_ok (by kernel_rfl) ty_ok Tryz.func16 rfl (fun _ _ => Tryz.call16 _ _) rfl ?_
      intro hw
      clear hw
      repeat' ((conv => whnf); first | (with_reducible first | refine br_t ?_ | refine br_f ?_ | refine za ?_ | refine zg ?_) | refine zsl ?_ | refine zsg ?_ | refine zss ?_ | refine zs1 ?_ | refine zse ?_ | refine zsn ?_ | refine zsc ?_ | (with_reducible first | refine zpa ?_ | refine zqa ?_) | refine zp ?_ | refine zq ?_ | (with_reducible first | refine bc (fun h => ?_) (fun h => ?_) | refine zt ?_ | refine zf ?_ | refine br_i (fun h => ?_) (fun h => ?_)) | refine zg ?_ | refine zi ?_ | refine zb ?_)
      all_goals conv => whnf
      all_goals first | rfl | contradiction
end Go.Proofs.YtgdpogdgpfjnoaaGreatDoor

namespace Go.Proofs.YtgdpogdgpfjnoaaGreatDoor
open Go Go.RowKit Go.Sort Sx
open Go.Lib hiding intOf
def rgreat (l : List Mt) : Bool := (decide (40 < l.length) && decide (l.length ≤ 2016)) || decide (2020 < l.length)
def slong (s : Str) : Bool := (decide (2000 < s.length) && decide (s.length ≤ 110000)) || decide (110100 < s.length)
theorem rtGreat_fn (r : Rp) : FnOK Tryz.prog 26 [r.dc] (.c (.one (bol (rgreat r.ms)))) := by
  obtain ⟨e, i, j, n, d, l⟩ := r
  have hll : (l.map Mt.c).length = l.length := List.length_map ..
  unfold rgreat
  simp only [Rp.dc]
  by_cases h1 : 40 < l.length
  · by_cases h2 : l.length ≤ 2016
    · rw [decide_eq_true h1, decide_eq_true h2]
      refine fn_ok (by kernel_rfl) ty_ok Tryz.func26 rfl (fun _ _ => Tryz.call26 _ _) rfl ?_
      intro hw
      clear hw
      exact zw
    · by_cases h3 : 2020 < l.length
      · rw [decide_eq_true h3, decide_eq_true h1, decide_eq_false h2]
        refine fn_ok (by kernel_rfl) ty_ok Tryz.func26 rfl (fun _ _ => Tryz.call26 _ _) rfl ?_
        intro hw
        clear hw
        repeat' ((conv => whnf); first | (with_reducible first | refine br_t ?_ | refine br_f ?_ | refine za ?_ | refine zg ?_) | refine zp ?_ | refine zq ?_ | (with_reducible first | refine bc (fun h => ?_) (fun h => ?_) | refine zt ?_ | refine zf ?_ | refine br_i (fun h => ?_) (fun h => ?_)) | refine zg ?_ | refine zi ?_ | refine zb ?_)
        all_goals conv => whnf
        all_goals exact r_bool (by simp; omega)
      · rw [decide_eq_false h3, decide_eq_true h1, decide_eq_false h2]
        refine fn_ok (by kernel_rfl) ty_ok Tryz.func26 rfl (fun _ _ => Tryz.call26 _ _) rfl ?_
        intro hw
        clear hw
        repeat' ((conv => whnf); first | (with_reducible first | refine br_t ?_ | refine br_f ?_ | refine za ?_ | refine zg ?_) | refine zp ?_ | refine zq ?_ | (with_reducible first | refine bc (fun h => ?_) (fun h => ?_) | refine zt ?_ | refine zf ?_ | refine br_i (fun h => ?_) (fun h => ?_)) | refine zg ?_ | refine zi ?_ | refine zb ?_)
        all_goals conv => whnf
        all_goals exact r_bool (by simp; omega)
  · have h3 : ¬ 2020 < l.length := by omega
    rw [decide_eq_false h1, decide_eq_false h3]
    refine fn_ok (by kernel_rfl) ty_ok Tryz.func26 rfl (fun _ _ => Tryz.call26 _ _) rfl ?_
    intro hw
    clear hw
    repeat' ((conv => whnf); first | (with_reducible first | refine br_t ?_ | refine br_f ?_ | refine za ?_ | refine zg ?_) | refine zp ?_ | refine zq ?_ | (with_reducible first | refine bc (fun h => ?_) (fun h => ?_) | refine zt ?_ | refine zf ?_ | refine br_i (fun h => ?_) (fun h => ?_)) | refine zg ?_ | refine zi ?_ | refine zb ?_)
    all_goals conv => whnf
    all_goals exact r_bool (by simp; omega)
theorem rtLong_fn (s : Str) (hs : s.length ≤ 9223372036854775807) : FnOK Tryz.prog 27 [.one (str s)] (.c (.one (bol (slong s)))) := by
  unfold slong
  by_cases h1 : 2000 < s.length
  · by_cases h2 : s.length ≤ 110000
    · rw [decide_eq_true h1, decide_eq_true h2]
      refine fn_ok (by kernel_rfl) ty_ok Tryz.func27 rfl (fun _ _ => Tryz.call27 _ _) rfl ?_
      intro hw
      clear hw
      repeat' ((conv => whnf); first | (with_reducible first | refine br_t ?_ | refine br_f ?_ | refine za ?_ | refine zg ?_) | refine zsl ?_ | refine zsg ?_ | refine zss ?_ | refine zs1 ?_ | refine zse ?_ | refine zsn ?_ | refine zsc ?_ | (with_reducible first | refine zpa ?_ | refine zqa ?_) | refine zp ?_ | refine zq ?_ | (with_reducible first | refine bc (fun h => ?_) (fun h => ?_) | refine zt ?_ | refine zf ?_ | refine br_i (fun h => ?_) (fun h => ?_)) | refine zg ?_ | refine zi ?_ | refine zb ?_)
      all_goals conv => whnf
      all_goals rfl
    · rw [decide_eq_true h1, decide_eq_false h2]
      refine fn_ok (by kernel_rfl) ty_ok Tryz.func27 rfl (fun _ _ => Tryz.call27 _ _) rfl ?_
      intro hw
      clear hw
      repeat' ((conv => whnf); first | (with_reducible first | refine br_t ?_ | refine br_f ?_ | refine za ?_ | refine zg ?_) | refine zsl ?_ | refine zsg ?_ | refine zss ?_ | refine zs1 ?_ | refine zse ?_ | refine zsn ?_ | refine zsc ?_ | (with_reducible first | refine zpa ?_ | refine zqa ?_) | refine zp ?_ | refine zq ?_ | (with_reducible first | refine bc (fun h => ?_) (fun h => ?_) | refine zt ?_ | refine zf ?_ | refine br_i (fun h => ?_) (fun h => ?_)) | refine zg ?_ | refine zi ?_ | refine zb ?_)
      all_goals conv => whnf
      all_goals exact r_bool (by simp; omega)
  · rw [decide_eq_false h1]
    refine fn_ok (by kernel_rfl) ty_ok Tryz.func27 rfl (fun _ _ => Tryz.call27 _ _) rfl ?_
    intro hw
    clear hw
    repeat' ((conv => whnf); first | (with_reducible first | refine br_t ?_ | refine br_f ?_ | refine za ?_ | refine zg ?_) | refine zsl ?_ | refine zsg ?_ | refine zss ?_ | refine zs1 ?_ | refine zse ?_ | refine zsn ?_ | refine zsc ?_ | (with_reducible first | refine zpa ?_ | refine zqa ?_) | refine zp ?_ | refine zq ?_ | (with_reducible first | refine bc (fun h => ?_) (fun h => ?_) | refine zt ?_ | refine zf ?_ | refine br_i (fun h => ?_) (fun h => ?_)) | refine zg ?_ | refine zi ?_ | refine zb ?_)
    all_goals conv => whnf
    all_goals exact r_bool (by simp; omega)
theorem LTReplies_none (r : Rp) (s : Str) (hs0 : s.length ≤ 9223372036854775807) (h : rgreat r.ms = true ∨ slong s = true) : FnOK Tryz.prog 5 [r.dc, .one (str s)] (.c (.one (bol true))) := by
  have H0 := rtGreat_fn r
  have H1 := rtLong_fn s hs0
  obtain ⟨e, i, j, n, d, l⟩ := r
  simp only [Rp.dc] at *
  cases hg : rgreat l
  · rw [hg] at H0 h
    rw [h.resolve_left (by decide)] at H1
    refine fn_ok (by kernel_rfl) (ty_okK [24] [] [] []) Tryz.func5 rfl (fun _ _ => Tryz.call5 _ _) rfl ?_
    intro hw
    clear hw
    repeat' ((conv => whnf); first | (with_reducible first | refine br_t ?_ | refine br_f ?_ | refine za ?_ | refine zg ?_ | refine zo ?_) | refine zsl ?_ | refine zsg ?_ | refine zss ?_ | refine zs1 ?_ | refine zse ?_ | refine zsn ?_ | refine zsc ?_ | (with_reducible first | refine zpa ?_ | refine zqa ?_) | refine zp ?_ | refine zq ?_ | (with_reducible first | refine bc (fun h => ?_) (fun h => ?_) | refine zt ?_ | refine zf ?_ | refine br_i (fun h => ?_) (fun h => ?_)) | refine zg ?_ | refine zi ?_ | refine zb ?_ | refine zl ?_)
    all_goals conv => whnf
    all_goals rfl
  · rw [hg] at H0
    refine fn_ok (by kernel_rfl) (ty_okK [24] [] [] []) Tryz.func5 rfl (fun _ _ => Tryz.call5 _ _) rfl ?_
    intro hw
    clear hw
    repeat' ((conv => whnf); first | (with_reducible first | refine br_t ?_ | refine br_f ?_ | refine za ?_ | refine zg ?_ | refine zo ?_) | refine zsl ?_ | refine zsg ?_ | refine zss ?_ | refine zs1 ?_ | refine zse ?_ | refine zsn ?_ | refine zsc ?_ | (with_reducible first | refine zpa ?_ | refine zqa ?_) | refine zp ?_ | refine zq ?_ | (with_reducible first | refine bc (fun h => ?_) (fun h => ?_) | refine zt ?_ | refine zf ?_ | refine br_i (fun h => ?_) (fun h => ?_)) | refine zg ?_ | refine zi ?_ | refine zb ?_ | refine zl ?_)
    all_goals conv => whnf
    all_goals rfl
set_option maxRecDepth 100000 in
set_option maxHeartbeats 4000000 in
theorem LTReplies_some (r : Rp) (s : Str) (hg : rgreat r.ms = false) (hs : slong s = false) : FnOK Tryz.prog 5 [r.dc, .one (str s)] (.c (.one (bol true))) := by
  have hl : r.ms.length ≤ 1000000 := by
    unfold rgreat at hg; simp at hg; omega
  have hs1 : s.length ≤ 2000 ∨ (110000 < s.length ∧ s.length ≤ 110100) := by
    unfold slong at hs; simp at hs; omega
  have H0 := rtGreat_fn r
  have H1 := rtLong_fn s (by omega)
  rw [hg] at H0
  rw [hs] at H1
  have C1 := tCheck_fn r hl
  have C2 := rtCheck_fn r hl
  have R1 := tReply_fn r hl
  have R2 := rtReply_fn r hl
  have D1 := tReadReply_fn s (by omega)
  have D2 := rtReadReply_fn s (by omega) (by omega)
  rw [← rread_eq] at D2
  have S1 := roSame_fn (rreadP s).1 (rreadP s).1
  have S2 := roSame_fn r r
  simp only [decide_true] at S1 S2
  clear hg hs hs1
  generalize rchk r = ck at *
  generalize replyV r = x at *
  generalize rreadP s = y at *
  obtain ⟨x1, x2⟩ := x
  obtain ⟨⟨y1, y2, y3, y4, y5, y6⟩, y7⟩ := y
  obtain ⟨e, i, j, n, d, l⟩ := r
  simp only [retS, retRp, Rp.dc] at *
  cases l with
  | nil =>
    simp only [mts, List.map_nil] at *
    refine fn_ok (by kernel_rfl) (ty_okK [24] [] [] []) Tryz.func5 rfl (fun _ _ => Tryz.call5 _ _) rfl ?_
    intro hw
    clear hw
    repeat' ((conv => whnf); first | (with_reducible first | refine br_t ?_ | refine br_f ?_ | refine za ?_ | refine zg ?_ | refine zo ?_) | refine zsl ?_ | refine zsg ?_ | refine zss ?_ | refine zs1 ?_ | refine zse ?_ | refine zsn ?_ | refine zsc ?_ | (with_reducible first | refine zpa ?_ | refine zqa ?_) | refine zp ?_ | refine zq ?_ | (with_reducible first | refine bc (fun h => ?_) (fun h => ?_) | refine zt ?_ | refine zf ?_ | refine br_i (fun h => ?_) (fun h => ?_)) | refine zg ?_ | refine zi ?_ | refine zb ?_ | refine zl ?_)
    all_goals conv => whnf
    all_goals first | rfl | (exfalso; omega) | exact r_bool (by simp)
  | cons a l =>
    have hal : ([] ++ a.c :: List.map Mt.c l).length ≤ 1000000 := by simp only [List.length_cons] at hl; simp; omega
    simp only [mts, List.map_cons] at *
    refine fn_ok (by kernel_rfl) (ty_okK [24] [] [] []) Tryz.func5 rfl (fun _ _ => Tryz.call5 _ _) rfl ?_
    intro hw
    clear hw
    repeat' ((conv => whnf); first | (with_reducible first | refine br_t ?_ | refine br_f ?_ | refine za ?_ | refine zg ?_ | refine zo ?_) | exact hal | refine zsl ?_ | refine zsg ?_ | refine zss ?_ | refine zs1 ?_ | refine zse ?_ | refine zsn ?_ | refine zsc ?_ | (with_reducible first | refine zpa ?_ | refine zqa ?_) | refine zp ?_ | refine zq ?_ | (with_reducible first | refine bc (fun h => ?_) (fun h => ?_) | refine zt ?_ | refine zf ?_ | refine br_i (fun h => ?_) (fun h => ?_)) | refine zg ?_ | refine zi ?_ | refine zb ?_ | refine zl ?_)
    all_goals conv => whnf
    all_goals first | rfl | (exfalso; omega) | exact r_bool (by simp)
theorem LTReplies_fn (r : Rp) (s : Str) (hs0 : s.length ≤ 9223372036854775807) : FnOK Tryz.prog 5 [r.dc, .one (str s)] (.c (.one (bol true))) := by
  cases hg : rgreat r.ms
  · cases hs : slong s
    · exact LTReplies_some r s hg hs
    · exact LTReplies_none r s hs0 (.inr hs)
  · exact LTReplies_none r s hs0 (.inl hg)
end Go.Proofs.YtgdpogdgpfjnoaaGreatDoor

namespace Go.Proofs.YtgdpogdgpfjnoaaGreatDoor
open Go Go.RowKit Go.ChangeShapes Go.WideShapes Go.ChangeAt Sx
theorem reportReplies_own : ownKnob Tryz.prog.godebug = none := by kernel_rfl
set_option maxRecDepth 100000 in
theorem reportReplies_wit (os : Os) {H : Type} (enc : TypeId × Value → H) :
    (OpenSpec.ofChange Rows.reportRepliesSpec).preRow enc Tryz.prog Tryz.f5 Rows.reportRepliesRow.domain false Rows.reportRepliesRow.laid ((laidWorld os).forCall (fun _ _ => 0) ⟨#[], #[.agg #[.int .i64 0, .int .i64 0, .int .i64 0, .int .i64 0, .int .i64 0, .slice none 0 0], .string ⟨#[]⟩], []⟩).memory #[.agg #[.int .i64 0, .int .i64 0, .int .i64 0, .int .i64 0, .int .i64 0, .slice none 0 0], .string ⟨#[]⟩] := by
  have hw : (DataW.whole enc Tryz.prog ((laidWorld os).forCall (fun _ _ => 0) ⟨#[], #[.agg #[.int .i64 0, .int .i64 0, .int .i64 0, .int .i64 0, .int .i64 0, .slice none 0 0], .string ⟨#[]⟩], []⟩).memory Tryz.f5.params.toList (OpenSpec.ofChange Rows.reportRepliesSpec).vars false (#[.agg #[.int .i64 0, .int .i64 0, .int .i64 0, .int .i64 0, .int .i64 0, .slice none 0 0], .string ⟨#[]⟩] : Array Value).toList 8).map (fun x => (x.1, x.2.1)) =
      some ([.agg [.lit (.int .i64 0), .lit (.int .i64 0), .lit (.int .i64 0), .agg [.lit (.int .i64 0), .lit (.int .i64 0)], .nil], .lit (.string [])], []) := by kernel_rfl
  obtain ⟨⟨x1, x2, x3⟩, hx, hx1⟩ := Option.map_eq_some_iff.1 hw
  simp only [Prod.mk.injEq] at hx1
  obtain ⟨rfl, rfl⟩ := hx1
  exact OpenSpec.preRow_of_cond 8 hx (by kernel_rfl) (fun k hk => by cases hk) (by kernel_rfl) (laid_met os _)
set_option maxRecDepth 100000 in
theorem reportReplies_lifted (os : Os) (started : os.Started) (H : Type) (enc : TypeId × Value → H) (F : Stop.Interp) :
    ReturnsInHanded {} Tryz.checked os 5 .any ((OpenSpec.ofChange Rows.reportRepliesSpec).preRow enc Tryz.prog Tryz.f5 Rows.reportRepliesRow.domain false Rows.reportRepliesRow.laid) (((OpenSpec.ofChange Rows.reportRepliesSpec).at F).post enc Tryz.prog Tryz.f5 false true false false) := by
  refine returnsInHanded_of_row (C := Tryz.checked) (s := OpenSpec.ofChange Rows.reportRepliesSpec) reportReplies_own started (by kernel_rfl) Tryz.func5
    (witness_row_at (enc := enc) (C := Tryz.checked) false (laidWorld os) #[.agg #[.int .i64 0, .int .i64 0, .int .i64 0, .int .i64 0, .int .i64 0, .slice none 0 0], .string ⟨#[]⟩] rfl (by kernel_rfl) (by kernel_rfl) (by kernel_rfl) (reportReplies_wit os enc)) ?_
  intro W base args ds gs before hval0 hW _ _ _ hL hsh _
  have hgd := gd_of hL hsh
  have hval : ∀ (j : Nat) t v, Tryz.f5.params[j]? = some t → args[j]? = some v → Value.okWide Tryz.prog W .any base t v := hval0
  have hW' := hW
  obtain ⟨p, q, hA0, hV, rfl, hfz, hnd⟩ := hW
  have hA : DataW.TrodAll enc Tryz.prog W 0 (fun _ => true) true Tryz.f5.params.toList args.toList ds p := hA0
  rw [Tryz.params5] at hA hval
  obtain ⟨v0, vs0, d0, ds0, p0, q0, hargs, rfl, rfl, h0, r0⟩ := trodAll_cons hA
  obtain ⟨v1, vs1, d1, ds1, p1, q1, rfl, rfl, rfl, h1, r1⟩ := trodAll_cons r0
  obtain ⟨rfl, rfl, rfl⟩ := trodAll_nil r1
  obtain rfl : args = #[v0, v1] := by cases args; simp_all
  obtain ⟨e0, hd0, hf0⟩ := arg_data (tyB_ok (s := shReply) (by kernel_rfl)) (hval 0 28 v0 rfl rfl) h0
  obtain ⟨r, rfl⟩ := fit_reply hf0
  obtain ⟨e1, hd1, hf1⟩ := arg_data (tyB_ok (s := .str) (by kernel_rfl)) (hval 1 9 v1 rfl rfl) h1
  obtain ⟨s, hs, rfl⟩ := fit_str hf1
  refine (law_of_fn (vs := [v0, v1]) (fun _ _ => Tryz.call5 _ _) (LTReplies_fn r s hs) hgd ⟨hd0, hd1, trivial⟩).mono fun e W' ⟨he, hb⟩ => ?_
  subst he
  exact ⟨_, rfl, law_post (s := Rows.reportRepliesSpec) (by kernel_rfl) (by kernel_rfl) rfl Tryz.underlying4 rfl hW' ⟨rfl, rfl, rfl⟩ hb⟩
theorem reportReplies_and {a b : Bool} (h : a = true) (k : b = true) : (a && b) = true := by rw [h, k]; rfl
theorem reportReplies_c0 : (Rows.reportRepliesRow.inPlace == Tryz.prog.inPlace 5) = true := by kernel_rfl
theorem reportReplies_c1 : (Rows.reportRepliesRow.unfollowed == Tryz.prog.unfollowed 5) = true := by kernel_rfl
theorem reportReplies_c2 : (Rows.reportRepliesRow.recurses == Tryz.prog.recurses 5) = true := by kernel_rfl
theorem reportReplies_c3 : (Rows.reportRepliesRow.named == Tryz.prog.varsNamed 5) = true := by kernel_rfl
theorem reportReplies_c4 : (Rows.reportRepliesRow.loops == (Tryz.f5.params.toList ++ (OpenSpec.ofChange Rows.reportRepliesSpec).bare.plain.varTypes Tryz.prog).any (Tryz.prog.loopsFrom ·)) = true := by kernel_rfl
theorem reportReplies_c5 : laidOutB Tryz.prog = true := by kernel_rfl
theorem reportReplies_c6 : mapsRowed Tryz.prog = true := by kernel_rfl
theorem reportReplies_c7 : Tryz.prog.stopsHeard = true := by kernel_rfl
theorem reportReplies_c8 : Tryz.prog.mayEnter = true := by kernel_rfl
theorem reportReplies_facts : joinedFacts Tryz.prog 5 Tryz.f5 (OpenSpec.ofChange Rows.reportRepliesSpec).bare Rows.reportRepliesRow = true := by
  unfold joinedFacts
  repeat' (with_reducible refine reportReplies_and ?_ ?_)
  all_goals first | with_reducible exact reportReplies_c0 | with_reducible exact reportReplies_c1 | with_reducible exact reportReplies_c2 | with_reducible exact reportReplies_c3 | with_reducible exact reportReplies_c4 | with_reducible exact reportReplies_c5 | with_reducible exact reportReplies_c6 | with_reducible exact reportReplies_c7 | with_reducible exact reportReplies_c8 | kernel_rfl
theorem reportReplies_over : Rows.reportRepliesRow.holds Tryz.pinned (OpenSpec.ofChange Rows.reportRepliesSpec) :=
  OpenClaim.holds_of_cond 5 Tryz.f5 rfl rfl rfl rfl rfl rfl rfl ⟨rfl, rfl, rfl, rfl, rfl⟩ rfl rfl rfl rfl rfl (by kernel_rfl) Tryz.func5 reportReplies_facts
    (of_decide_eq_true (by kernel_rfl)) (by unfold Func.isWrapper; rw [if_neg (of_decide_eq_false (by kernel_rfl))]; exact ⟨rfl, rfl⟩)
    (fun os started H enc _ F0 => by rw [OpenClaim.pre_eq_preRow]; exact reportReplies_lifted os started H enc F0)
theorem reportReplies_params : (Tryz.f5.params.toList.all fun t => !Tryz.prog.wantsStandIn t) = true := by kernel_rfl
theorem reportReplies_proved : Rows.ReportRepliesCardSaid :=
  Claim7.holds_tied_plain_at .later [] Rows.reportRepliesCard.laidKinds true Rows.reportRepliesCard.stood.harness Rows.reportRepliesCard.stood.looks
    reportReplies_over (fun _ h => by cases h) (by kernel_rfl) (fun _ h => by cases h) reportReplies_row_tie rfl ⟨rfl, rfl⟩ (by kernel_rfl) rfl
    (fun f fn hf hfn => by
      obtain rfl : f = 5 := Option.some.inj (hf.symm.trans (show Tryz.prog.funcNamed "peloton/pelotonlaw45.ReportReplies" = some 5 by kernel_rfl))
      obtain rfl : fn = Tryz.f5 := (Option.some.inj (Tryz.func5.symm.trans hfn)).symm
      exact ⟨by kernel_rfl, fun j t ht => by
        have hm : t ∈ Tryz.f5.params.toList := by rw [Array.mem_toList_iff]; exact Array.mem_of_getElem? ht
        exact (by simpa using List.all_eq_true.1 reportReplies_params t hm : Tryz.prog.wantsStandIn t = false)⟩)
    (by kernel_rfl)
#print axioms reportReplies_proved
end Go.Proofs.YtgdpogdgpfjnoaaGreatDoor
