import Derived.Test.YtnalabphiaholaaDoorGLCNumbersAL
import Derived.Test.YtnalabphiaholaaDoorGLCNumbersAK
import Derived.Test.YtnalabphiaholaaDoorGLCNumbersAM
set_option linter.all false
namespace Go.Proofs.YtnalabphiaholaaDoor
open Go.RowKit Go.Sort Sx Go.Lib
structure Reads {α : Type} (wr : α → Str) (good : α → Prop) (bad : α) (f : Str → α × Int) : Prop where
  ok : ∀ s, (f s).2 = 0 → good (f s).1 ∧ wr (f s).1 = s
  no : ∀ s, (f s).2 ≠ 0 → f s = (bad, 12)
  of : ∀ a, good a → f (wr a) = (a, 0)
theorem Reads.eq {α : Type} {wr : α → Str} {good : α → Prop} {bad : α} {f g : Str → α × Int} (hf : Reads wr good bad f) (hg : Reads wr good bad g) (s : Str) : f s = g s := by
  have key : ∀ {f g : Str → α × Int}, Reads wr good bad f → Reads wr good bad g → (f s).2 = 0 → f s = g s := fun {f g} hf hg h => by
    obtain ⟨a, b⟩ := hf.ok s h
    have := hg.of _ a
    rw [b] at this
    rw [this, ← h]
  by_cases h : (f s).2 = 0
  · exact key hf hg h
  · by_cases h2 : (g s).2 = 0
    · exact (key hg hf h2).symm
    · rw [hf.no s h, hg.no s h2]
def wPut : Str := [112, 117, 116]
def wTake : Str := [116, 97, 107, 101]
def wChange : Str := [99, 104, 97, 110, 103, 101]
def wMove : Str := [109, 111, 118, 101]
def wLead : Str := [108, 101, 97, 100]
def wClose : Str := [99, 108, 111, 115, 101]
def wordK (k : Int) : Str := if k = 1 then wPut else if k = 2 then wTake else if k = 3 then wChange else if k = 4 then wMove else if k = 5 then wLead else if k = 6 then wClose else []
def kindW (w : Str) : Int := if w = wPut then 1 else if w = wTake then 2 else if w = wChange then 3 else if w = wMove then 4 else if w = wLead then 5 else if w = wClose then 6 else 0
def pointS (p : Pt) : Str := itoa p.id ++ 32 :: (itoa p.a ++ 32 :: itoa p.b)
def akchk (a : Ak) : Int := if formV a = true ∧ (a.k = 1 ∨ a.k = 3 → a.p.chk = 0) ∧ (a.k = 2 → 0 ≤ a.id ∧ a.id ≤ 65535) ∧ (a.k = 4 → askd a.n a.d = 0) then 0 else 8
def ordT (a : Ak) : Str := if a.k = 1 ∨ a.k = 3 then wordK a.k ++ 32 :: pointS a.p else if a.k = 2 then wordK 2 ++ 32 :: itoa a.id else if a.k = 4 then wordK 4 ++ 32 :: wrtV a.n a.d else wordK a.k
def ordSV (a : Ak) : Str × Int := if akchk a = 0 then (ordT a, 0) else ([], 8)
abbrev ak0 : Ak := ⟨0, ⟨0, 0, 0⟩, 0, 0, 0⟩
def joinS : List Str → Str
  | [] => []
  | [a] => a
  | a :: l => a ++ 32 :: joinS l
def rdPt (wh : Str → Int × Bool) : List Str → Option Pt
  | [a, b, c] => if (wh a).2 = true ∧ (wh b).2 = true ∧ (wh c).2 = true then some ⟨(wh a).1, (wh b).1, (wh c).1⟩ else none
  | _ => none
def backA (s : Str) (a : Ak) : Ak × Int := if akchk a = 0 ∧ ordT a = s then (a, 0) else (ak0, 12)
def rvK (s : Str) (k : Int) (t : List Str) : Ak × Int :=
  if k = 1 ∨ k = 3 then (match rdPt wholeV t with | some p => backA s ⟨k, p, 0, 0, 0⟩ | none => (ak0, 12))
  else if k = 2 then (if (wholeV (joinS t)).2 = true then backA s ⟨2, ⟨0, 0, 0⟩, (wholeV (joinS t)).1, 0, 0⟩ else (ak0, 12))
  else if k = 4 then (if (readV (joinS t)).2 = 0 then backA s ⟨4, ⟨0, 0, 0⟩, 0, (readV (joinS t)).1.1, (readV (joinS t)).1.2⟩ else (ak0, 12))
  else backA s ⟨k, ⟨0, 0, 0⟩, 0, 0, 0⟩
def rordV (s : Str) : Ak × Int := rvK s (kindW ((spl 32 s).headD [])) (spl 32 s).tail
def rdPtR (w : List Str) : Option Pt := match rdPt wholeR w with | some p => if 0 ≤ p.id ∧ p.id ≤ 65535 then some p else none | none => none
def rrK (s : Str) (k : Int) (t : List Str) (z : Str) : Ak × Int :=
  if k = 1 ∨ k = 3 then (match rdPtR t with | some p => backA s ⟨k, p, 0, 0, 0⟩ | none => (ak0, 12))
  else if k = 2 then (if (wholeR z).2 = true ∧ 0 ≤ (wholeR z).1 ∧ (wholeR z).1 ≤ 65535 then backA s ⟨2, ⟨0, 0, 0⟩, (wholeR z).1, 0, 0⟩ else (ak0, 12))
  else if k = 4 then (if (readR z).2 = 0 then backA s ⟨4, ⟨0, 0, 0⟩, 0, (readR z).1.1, (readR z).1.2⟩ else (ak0, 12))
  else backA s ⟨k, ⟨0, 0, 0⟩, 0, 0, 0⟩
def rordR (s : Str) : Ak × Int := rrK s (kindW ((spl 32 s).headD [])) (spl 32 s).tail ((spl 32 s).getLastD [])
theorem backA_ok {s : Str} {a : Ak} (h : (backA s a).2 = 0) : akchk (backA s a).1 = 0 ∧ ordT (backA s a).1 = s := by
  unfold backA at h ⊢
  split at h
  · rename_i c; rw [if_pos c]; exact c
  · cases h
theorem backA_no {s : Str} {a : Ak} (h : (backA s a).2 ≠ 0) : backA s a = (ak0, 12) := by
  unfold backA at h ⊢
  split at h
  · exact absurd rfl h
  · rename_i c; rw [if_neg c]
theorem backA_of {s : Str} {a : Ak} (h : akchk a = 0) (e : ordT a = s) : backA s a = (a, 0) := by unfold backA; rw [if_pos ⟨h, e⟩]
theorem akchk_ok {a : Ak} (h : akchk a = 0) : formV a = true ∧ (a.k = 1 ∨ a.k = 3 → a.p.chk = 0) ∧ (a.k = 2 → 0 ≤ a.id ∧ a.id ≤ 65535) ∧ (a.k = 4 → askd a.n a.d = 0) := by
  unfold akchk at h
  split at h
  · assumption
  · cases h
theorem kind_word {k : Int} (h : k = 1 ∨ k = 2 ∨ k = 3 ∨ k = 4 ∨ k = 5 ∨ k = 6) : kindW (wordK k) = k := by
  rcases h with rfl | rfl | rfl | rfl | rfl | rfl <;> rfl
theorem word_no {k : Int} : (32 : UInt8) ∉ wordK k := by
  unfold wordK
  repeat' split
  all_goals decide
theorem itoa_no32 (n : Int) : (32 : UInt8) ∉ itoa n := itoa_no (by decide) (by decide)
theorem wrt_no32 (n d : Int) : (32 : UInt8) ∉ wrtV n d := by
  unfold wrtV
  split
  · exact itoa_no32 n
  · intro h
    rcases List.mem_append.1 h with h | h
    · exact itoa_no32 n h
    · rcases List.mem_cons.1 h with h | h
      · exact absurd h (by decide)
      · exact itoa_no32 d h
theorem spl_point (p : Pt) : spl 32 (pointS p) = [itoa p.id, itoa p.a, itoa p.b] := by
  unfold pointS
  rw [spl_at _ (itoa_no32 _), spl_at _ (itoa_no32 _), spl_no (itoa_no32 _)]
theorem pt_fit {p : Pt} (h : p.chk = 0) : fitI p.id ∧ fitI p.a ∧ fitI p.b := by
  obtain ⟨h1, h2, h3, h4, h5, h6⟩ := cpt_ok (i := p.id) (a := p.a) (b := p.b) h
  exact ⟨⟨by omega, by omega⟩, ⟨by omega, by omega⟩, ⟨by omega, by omega⟩⟩
theorem askd_fit {n d : Int} (h : askd n d = 0) : chk n d = 0 ∧ fitI n ∧ fitI d := by
  obtain ⟨h1, h2, h3, h4, h5⟩ := askd_ok h
  exact ⟨h1, ⟨by omega, by omega⟩, ⟨by omega, by omega⟩⟩
theorem rordV_form (s : Str) : rordV s = (ak0, 12) ∨ ∃ a, rordV s = backA s a := by
  unfold rordV rvK
  split
  · split
    · exact .inr ⟨_, rfl⟩
    · exact .inl rfl
  · split
    · split
      · exact .inr ⟨_, rfl⟩
      · exact .inl rfl
    · split
      · split
        · exact .inr ⟨_, rfl⟩
        · exact .inl rfl
      · exact .inr ⟨_, rfl⟩
theorem rordR_form (s : Str) : rordR s = (ak0, 12) ∨ ∃ a, rordR s = backA s a := by
  unfold rordR rrK
  split
  · split
    · exact .inr ⟨_, rfl⟩
    · exact .inl rfl
  · split
    · split
      · exact .inr ⟨_, rfl⟩
      · exact .inl rfl
    · split
      · split
        · exact .inr ⟨_, rfl⟩
        · exact .inl rfl
      · exact .inr ⟨_, rfl⟩
theorem rdPt_of {wh : Str → Int × Bool} (hw : ∀ n, fitI n → wh (itoa n) = (n, true)) {p : Pt} (h : p.chk = 0) : rdPt wh [itoa p.id, itoa p.a, itoa p.b] = some p := by
  obtain ⟨h1, h2, h3⟩ := pt_fit h
  show (if (wh (itoa p.id)).2 = true ∧ (wh (itoa p.a)).2 = true ∧ (wh (itoa p.b)).2 = true then some (⟨(wh (itoa p.id)).1, (wh (itoa p.a)).1, (wh (itoa p.b)).1⟩ : Pt) else none) = _
  rw [hw _ h1, hw _ h2, hw _ h3, if_pos ⟨rfl, rfl, rfl⟩]
theorem ord_cases {a : Ak} (h : akchk a = 0) : (∃ k, (k = 1 ∨ k = 3) ∧ ∃ p : Pt, p.chk = 0 ∧ a = ⟨k, p, 0, 0, 0⟩) ∨ (∃ i, 0 ≤ i ∧ i ≤ 65535 ∧ a = ⟨2, ⟨0, 0, 0⟩, i, 0, 0⟩) ∨ (∃ n d, askd n d = 0 ∧ a = ⟨4, ⟨0, 0, 0⟩, 0, n, d⟩) ∨ ∃ k, (k = 5 ∨ k = 6) ∧ a = ⟨k, ⟨0, 0, 0⟩, 0, 0, 0⟩ := by
  obtain ⟨hf, h1, h2, h3⟩ := akchk_ok h
  obtain ⟨k, ⟨pi, pa, pb⟩, i, n, d⟩ := a
  unfold formV at hf
  have hf := of_decide_eq_true hf
  dsimp only at hf h1 h2 h3
  rcases hf with ⟨hk, e1, e2, e3⟩ | ⟨hk, e1, e2, e3, e4, e5⟩ | ⟨hk, e1, e2, e3, e4⟩ | ⟨hk, e1, e2, e3, e4, e5, e6⟩
  · subst e1 e2 e3
    exact .inl ⟨k, hk, _, h1 hk, rfl⟩
  · subst hk e1 e2 e3 e4 e5
    obtain ⟨a, b⟩ := h2 rfl
    exact .inr (.inl ⟨i, a, b, rfl⟩)
  · subst hk e1 e2 e3 e4
    exact .inr (.inr (.inl ⟨n, d, h3 rfl, rfl⟩))
  · subst e1 e2 e3 e4 e5 e6
    exact .inr (.inr (.inr ⟨k, hk, rfl⟩))
theorem rordV_is : Reads ordT (fun a => akchk a = 0) ak0 rordV := by
  refine ⟨fun s h => ?_, fun s h => ?_, fun a h => ?_⟩
  · rcases rordV_form s with e | ⟨a, e⟩
    · rw [e] at h; cases h
    · rw [e] at h ⊢; exact backA_ok h
  · rcases rordV_form s with e | ⟨a, e⟩
    · exact e
    · rw [e] at h ⊢; exact backA_no h
  · rcases ord_cases h with ⟨k, hk, p, hp, rfl⟩ | ⟨i, h1, h2, rfl⟩ | ⟨n, d, hd, rfl⟩ | ⟨k, hk, rfl⟩
    · have hs : spl 32 (ordT ⟨k, p, 0, 0, 0⟩) = [wordK k, itoa p.id, itoa p.a, itoa p.b] := by
        show spl 32 (if k = 1 ∨ k = 3 then _ else _) = _
        rw [if_pos hk, spl_at _ word_no, spl_point]
      have hkw : kindW (wordK k) = k := kind_word (by omega)
      unfold rordV
      rw [hs]
      show rvK _ (kindW (wordK k)) [itoa p.id, itoa p.a, itoa p.b] = _
      rw [hkw]
      unfold rvK
      rw [if_pos hk, rdPt_of (fun n h => whole_itoa h) hp]
      exact backA_of h rfl
    · have hs : spl 32 (ordT ⟨2, ⟨0, 0, 0⟩, i, 0, 0⟩) = [wordK 2, itoa i] := by
        show spl 32 (wordK 2 ++ 32 :: itoa i) = _
        rw [spl_at _ word_no, spl_no (itoa_no32 _)]
      have hkw : kindW (wordK 2) = 2 := rfl
      unfold rordV
      rw [hs]
      show rvK _ 2 [itoa i] = _
      unfold rvK
      rw [if_neg (by decide), if_pos rfl, show joinS [itoa i] = itoa i from rfl, whole_itoa ⟨by omega, by omega⟩, if_pos rfl]
      exact backA_of h rfl
    · obtain ⟨c1, c2, c3⟩ := askd_fit hd
      have hs : spl 32 (ordT ⟨4, ⟨0, 0, 0⟩, 0, n, d⟩) = [wordK 4, wrtV n d] := by
        show spl 32 (wordK 4 ++ 32 :: wrtV n d) = _
        rw [spl_at _ word_no, spl_no (wrt_no32 _ _)]
      have hkw : kindW (wordK 4) = 4 := rfl
      unfold rordV
      rw [hs]
      show rvK _ 4 [wrtV n d] = _
      unfold rvK
      rw [if_neg (by decide), if_neg (by decide), if_pos rfl, show joinS [wrtV n d] = wrtV n d from rfl, readV_is.of n d c1 c2 c3, if_pos rfl]
      exact backA_of h rfl
    · have hs : spl 32 (ordT ⟨k, ⟨0, 0, 0⟩, 0, 0, 0⟩) = [wordK k] := by
        show spl 32 (if k = 1 ∨ k = 3 then _ else if k = 2 then _ else if k = 4 then _ else _) = _
        rw [if_neg (by omega), if_neg (by omega), if_neg (by omega), spl_no word_no]
      have hkw : kindW (wordK k) = k := kind_word (by omega)
      unfold rordV
      rw [hs]
      show rvK _ (kindW (wordK k)) [] = _
      rw [hkw]
      unfold rvK
      rw [if_neg (by omega), if_neg (by omega), if_neg (by omega)]
      exact backA_of h rfl
theorem rordR_is : Reads ordT (fun a => akchk a = 0) ak0 rordR := by
  refine ⟨fun s h => ?_, fun s h => ?_, fun a h => ?_⟩
  · rcases rordR_form s with e | ⟨a, e⟩
    · rw [e] at h; cases h
    · rw [e] at h ⊢; exact backA_ok h
  · rcases rordR_form s with e | ⟨a, e⟩
    · exact e
    · rw [e] at h ⊢; exact backA_no h
  · rcases ord_cases h with ⟨k, hk, p, hp, rfl⟩ | ⟨i, h1, h2, rfl⟩ | ⟨n, d, hd, rfl⟩ | ⟨k, hk, rfl⟩
    · have hs : spl 32 (ordT ⟨k, p, 0, 0, 0⟩) = [wordK k, itoa p.id, itoa p.a, itoa p.b] := by
        show spl 32 (if k = 1 ∨ k = 3 then _ else _) = _
        rw [if_pos hk, spl_at _ word_no, spl_point]
      have hkw : kindW (wordK k) = k := kind_word (by omega)
      have hr : rdPtR [itoa p.id, itoa p.a, itoa p.b] = some p := by
        obtain ⟨q1, q2, _⟩ := cpt_ok (i := p.id) (a := p.a) (b := p.b) hp
        unfold rdPtR
        rw [rdPt_of (fun n h => wholeR_itoa h) hp]
        dsimp only
        rw [if_pos ⟨q1, q2⟩]
      unfold rordR
      rw [hs]
      show rrK _ (kindW (wordK k)) [itoa p.id, itoa p.a, itoa p.b] _ = _
      rw [hkw]
      unfold rrK
      rw [if_pos hk, hr]
      exact backA_of h rfl
    · have hs : spl 32 (ordT ⟨2, ⟨0, 0, 0⟩, i, 0, 0⟩) = [wordK 2, itoa i] := by
        show spl 32 (wordK 2 ++ 32 :: itoa i) = _
        rw [spl_at _ word_no, spl_no (itoa_no32 _)]
      have hkw : kindW (wordK 2) = 2 := rfl
      have hz : ([wordK 2, itoa i] : List Str).getLastD [] = itoa i := rfl
      unfold rordR
      rw [hs, hz]
      show rrK _ 2 [itoa i] (itoa i) = _
      unfold rrK
      rw [if_neg (by decide), if_pos rfl, wholeR_itoa ⟨by omega, by omega⟩, if_pos ⟨rfl, h1, h2⟩]
      exact backA_of h rfl
    · obtain ⟨c1, c2, c3⟩ := askd_fit hd
      have hs : spl 32 (ordT ⟨4, ⟨0, 0, 0⟩, 0, n, d⟩) = [wordK 4, wrtV n d] := by
        show spl 32 (wordK 4 ++ 32 :: wrtV n d) = _
        rw [spl_at _ word_no, spl_no (wrt_no32 _ _)]
      have hkw : kindW (wordK 4) = 4 := rfl
      have hz : ([wordK 4, wrtV n d] : List Str).getLastD [] = wrtV n d := rfl
      unfold rordR
      rw [hs, hz]
      show rrK _ 4 [wrtV n d] (wrtV n d) = _
      unfold rrK
      rw [if_neg (by decide), if_neg (by decide), if_pos rfl, readR_is.of n d c1 c2 c3, if_pos rfl]
      exact backA_of h rfl
    · have hs : spl 32 (ordT ⟨k, ⟨0, 0, 0⟩, 0, 0, 0⟩) = [wordK k] := by
        show spl 32 (if k = 1 ∨ k = 3 then _ else if k = 2 then _ else if k = 4 then _ else _) = _
        rw [if_neg (by omega), if_neg (by omega), if_neg (by omega), spl_no word_no]
      have hkw : kindW (wordK k) = k := kind_word (by omega)
      unfold rordR
      rw [hs]
      show rrK _ (kindW (wordK k)) [] _ = _
      rw [hkw]
      unfold rrK
      rw [if_neg (by omega), if_neg (by omega), if_neg (by omega)]
      exact backA_of h rfl
theorem rord_eq (s : Str) : rordV s = rordR s := rordV_is.eq rordR_is s
end Go.Proofs.YtnalabphiaholaaDoor

namespace Go.Proofs.YtnalabphiaholaaDoor
open Go Go.RowKit Go.Sort Sx
open Go.Lib hiding intOf
theorem cwords_fn : FnOK Tryd.prog 53 [] (.c (.agg [str [], str wPut, str wTake, str wChange, str wMove, str wLead, str wClose])) := by
  refine fn_ok (by kernel_rfl) ty_ok Tryd.func53 rfl (fun _ _ => Tryd.call53 _ _) rfl ?_
  intro hw
  clear hw
  repeat' ((conv => whnf); first | (with_reducible first | refine br_t ?_ | refine br_f ?_ | refine za ?_ | refine zg ?_) | refine zsl ?_ | refine zsg ?_ | refine zss ?_ | refine zs1 ?_ | refine zse ?_ | refine zsn ?_ | refine zsc ?_ | refine zp ?_ | refine zq ?_ | (with_reducible first | refine bc (fun h => ?_) (fun h => ?_) | refine zt ?_ | refine zf ?_ | refine br_i (fun h => ?_) (fun h => ?_)) | refine zg ?_ | refine zi ?_ | refine zb ?_)
  all_goals conv => whnf
  all_goals rfl
theorem dcCheck_fn (a : Ak) : FnOK Tryd.prog 33 [a.dc] (ret1 (akchk a)) := by
  obtain ⟨k, ⟨i, x, y⟩, id, n, d⟩ := a
  have H1 := kCheck_fn i x y
  have H2 := asked_fn n d
  have hr := askd_rng n d
  have h08 := cpt_08 i x y
  unfold akchk formV Pt.chk
  dsimp only
  generalize cpt i x y = c at *
  generalize askd n d = e at *
  refine fn_ok (by kernel_rfl) ty_ok Tryd.func33 rfl (fun _ _ => Tryd.call33 _ _) rfl ?_
  intro hw
  clear hw
  repeat' ((conv => whnf); first | (with_reducible first | refine br_t ?_ | refine br_f ?_ | refine za ?_ | refine zg ?_) | refine zp ?_ | refine zq ?_ | (with_reducible first | refine bc (fun h => ?_) (fun h => ?_) | refine zt ?_ | refine zf ?_ | refine br_i (fun h => ?_) (fun h => ?_) | refine xi (pv_bool fun _ => nev45 _ _ _ _ _ _ _ _ _ _ _ _ _ _ _ _ _) ?_) | refine zg ?_ | refine zi ?_ | refine zb ?_)
  all_goals conv => whnf
  all_goals
    clear H1 H2
    refine r_int ?_
    simp only [decide_eq_true_eq, Decidable.imp_iff_not_or, true_and, and_true] at *
    split
    all_goals first | rfl | (exfalso; omega)
theorem r36Check_fn (a : Ak) : FnOK Tryd.prog 34 [a.dc] (ret1 (akchk a)) := by
  obtain ⟨k, ⟨i, x, y⟩, id, n, d⟩ := a
  have H1 := kkCheck_fn i x y
  have H2 := rasked_fn n d
  have H3 := rcheck_fn n d
  have hca : askd n d = 0 → chk n d = 0 := fun h => (askd_ok h).1
  have hc8 := chk_08 n d
  have hr := askd_rng n d
  have h08 := cpt_08 i x y
  unfold akchk formV Pt.chk
  dsimp only
  generalize cpt i x y = c at *
  generalize chk n d = g at *
  generalize askd n d = e at *
  refine fn_ok (by kernel_rfl) ty_ok Tryd.func34 rfl (fun _ _ => Tryd.call34 _ _) rfl ?_
  intro hw
  clear hw
  repeat' ((conv => whnf); first | (with_reducible first | refine br_t ?_ | refine br_f ?_ | refine za ?_ | refine zg ?_) | refine zp ?_ | refine zq ?_ | (with_reducible first | refine bc (fun h => ?_) (fun h => ?_) | refine zt ?_ | refine zf ?_ | refine br_i (fun h => ?_) (fun h => ?_) | refine xi (pv_bool fun _ => nev45 _ _ _ _ _ _ _ _ _ _ _ _ _ _ _ _ _) ?_) | refine zg ?_ | refine zi ?_ | refine zb ?_)
  all_goals conv => whnf
  all_goals
    clear H1 H2 H3
    refine r_int ?_
    simp only [decide_eq_true_eq, Decidable.imp_iff_not_or, true_and, and_true] at *
    split
    all_goals first | rfl | (exfalso; omega)
end Go.Proofs.YtnalabphiaholaaDoor

namespace Go.Proofs.YtnalabphiaholaaDoor
open Go Go.RowKit Go.Sort Sx
open Go.Lib hiding intOf
theorem cOrder_fn (a : Ak) : FnOK Tryd.prog 20 [a.dc] (retS (ordSV a)) := by
  have Hc := dcCheck_fn a
  have Hw := cwords_fn
  have q1 : wPut.length = 3 := rfl
  have q2 : wTake.length = 4 := rfl
  have q3 : wChange.length = 6 := rfl
  have q4 : wMove.length = 4 := rfl
  unfold ordSV
  by_cases h : akchk a = 0
  · rw [if_pos h]
    rw [h] at Hc
    rcases ord_cases h with ⟨k, hk, ⟨i, x, y⟩, hp, rfl⟩ | ⟨i, h1, h2, rfl⟩ | ⟨n, d, hd, rfl⟩ | ⟨k, hk, rfl⟩
    · have Hp := cpoint_fn i x y
      obtain ⟨g1, g2, g3⟩ := pt_fit hp
      have g1 : fitI i := g1
      have g2 : fitI x := g2
      have g3 : fitI y := g3
      have l1 := itoa_le (n := i) ⟨by have := g1.1; omega, g1.2⟩
      have l2 := itoa_le (n := x) ⟨by have := g2.1; omega, g2.2⟩
      have l3 := itoa_le (n := y) ⟨by have := g3.1; omega, g3.2⟩
      have hl : (itoa i ++ 32 :: (itoa x ++ 32 :: itoa y)).length ≤ 100 := by simp only [List.length_append, List.length_cons]; omega
      have eS : itoa i ++ 32 :: (itoa x ++ 32 :: itoa y) = pointS ⟨i, x, y⟩ := rfl
      rw [eS] at Hp hl
      clear eS
      obtain ⟨S, hS⟩ : ∃ S, S = pointS ⟨i, x, y⟩ := ⟨_, rfl⟩
      rw [← hS] at Hp hl
      rcases hk with rfl | rfl
      · have e : ordT ⟨1, ⟨i, x, y⟩, 0, 0, 0⟩ = wPut ++ 32 :: S := by rw [hS]; rfl
        rw [e]
        simp only [Ak.dc] at Hc ⊢
        refine fn_ok (by kernel_rfl) ty_ok Tryd.func20 rfl (fun _ _ => Tryd.call20 _ _) rfl ?_
        intro hw
        clear hw
        repeat' ((conv => whnf); first | (with_reducible first | refine br_t ?_ | refine br_f ?_ | refine za ?_ | refine zg ?_) | refine zsl ?_ | refine zsg ?_ | refine zss ?_ | refine zs1 ?_ | refine zse ?_ | refine zsn ?_ | refine zsc ?_ | refine zp ?_ | refine zq ?_ | (with_reducible first | refine bc (fun h => ?_) (fun h => ?_) | refine zt ?_ | refine zf ?_ | refine br_i (fun h => ?_) (fun h => ?_)) | refine zg ?_ | refine zi ?_ | refine zb ?_)
        all_goals conv => whnf
        all_goals rfl
      · have e : ordT ⟨3, ⟨i, x, y⟩, 0, 0, 0⟩ = wChange ++ 32 :: S := by rw [hS]; rfl
        rw [e]
        simp only [Ak.dc] at Hc ⊢
        refine fn_ok (by kernel_rfl) ty_ok Tryd.func20 rfl (fun _ _ => Tryd.call20 _ _) rfl ?_
        intro hw
        clear hw
        repeat' ((conv => whnf); first | (with_reducible first | refine br_t ?_ | refine br_f ?_ | refine za ?_ | refine zg ?_) | refine zsl ?_ | refine zsg ?_ | refine zss ?_ | refine zs1 ?_ | refine zse ?_ | refine zsn ?_ | refine zsc ?_ | refine zp ?_ | refine zq ?_ | (with_reducible first | refine bc (fun h => ?_) (fun h => ?_) | refine zt ?_ | refine zf ?_ | refine br_i (fun h => ?_) (fun h => ?_)) | refine zg ?_ | refine zi ?_ | refine zb ?_)
        all_goals conv => whnf
        all_goals rfl
    · have l1 := itoa_le (n := i) ⟨by omega, by omega⟩
      have e : ordT ⟨2, ⟨0, 0, 0⟩, i, 0, 0⟩ = wTake ++ 32 :: itoa i := rfl
      rw [e]
      simp only [Ak.dc] at Hc ⊢
      refine fn_ok (by kernel_rfl) ty_ok Tryd.func20 rfl (fun _ _ => Tryd.call20 _ _) rfl ?_
      intro hw
      clear hw
      repeat' ((conv => whnf); first | (with_reducible first | refine br_t ?_ | refine br_f ?_ | refine za ?_ | refine zg ?_) | refine za ?_ ito_fn | refine zsl ?_ | refine zsg ?_ | refine zss ?_ | refine zs1 ?_ | refine zse ?_ | refine zsn ?_ | refine zsc ?_ | refine zp ?_ | refine zq ?_ | (with_reducible first | refine bc (fun h => ?_) (fun h => ?_) | refine zt ?_ | refine zf ?_ | refine br_i (fun h => ?_) (fun h => ?_)) | refine zg ?_ | refine zi ?_ | refine zb ?_)
      all_goals conv => whnf
      all_goals rfl
    · obtain ⟨c1, c2, c3⟩ := askd_fit hd
      have l1 := wrtV_le (n := n) (d := d) ⟨by have := c2.1; omega, c2.2⟩ ⟨by have := c3.1; omega, c3.2⟩
      have Hn := cNumber_fn n d
      rw [numV_ok c1] at Hn
      simp only [retS] at Hn
      have e : ordT ⟨4, ⟨0, 0, 0⟩, 0, n, d⟩ = wMove ++ 32 :: wrtV n d := rfl
      rw [e]
      simp only [Ak.dc] at Hc ⊢
      refine fn_ok (by kernel_rfl) ty_ok Tryd.func20 rfl (fun _ _ => Tryd.call20 _ _) rfl ?_
      intro hw
      clear hw
      repeat' ((conv => whnf); first | (with_reducible first | refine br_t ?_ | refine br_f ?_ | refine za ?_ | refine zg ?_) | refine zsl ?_ | refine zsg ?_ | refine zss ?_ | refine zs1 ?_ | refine zse ?_ | refine zsn ?_ | refine zsc ?_ | refine zp ?_ | refine zq ?_ | (with_reducible first | refine bc (fun h => ?_) (fun h => ?_) | refine zt ?_ | refine zf ?_ | refine br_i (fun h => ?_) (fun h => ?_)) | refine zg ?_ | refine zi ?_ | refine zb ?_)
      all_goals conv => whnf
      all_goals rfl
    · rcases hk with rfl | rfl
      · have e : ordT ⟨5, ⟨0, 0, 0⟩, 0, 0, 0⟩ = wLead := rfl
        rw [e]
        simp only [Ak.dc] at Hc ⊢
        refine fn_ok (by kernel_rfl) ty_ok Tryd.func20 rfl (fun _ _ => Tryd.call20 _ _) rfl ?_
        intro hw
        clear hw
        repeat' ((conv => whnf); first | (with_reducible first | refine br_t ?_ | refine br_f ?_ | refine za ?_ | refine zg ?_) | refine zsl ?_ | refine zsg ?_ | refine zss ?_ | refine zs1 ?_ | refine zse ?_ | refine zsn ?_ | refine zsc ?_ | refine zp ?_ | refine zq ?_ | (with_reducible first | refine bc (fun h => ?_) (fun h => ?_) | refine zt ?_ | refine zf ?_ | refine br_i (fun h => ?_) (fun h => ?_)) | refine zg ?_ | refine zi ?_ | refine zb ?_)
        all_goals conv => whnf
        all_goals rfl
      · have e : ordT ⟨6, ⟨0, 0, 0⟩, 0, 0, 0⟩ = wClose := rfl
        rw [e]
        simp only [Ak.dc] at Hc ⊢
        refine fn_ok (by kernel_rfl) ty_ok Tryd.func20 rfl (fun _ _ => Tryd.call20 _ _) rfl ?_
        intro hw
        clear hw
        repeat' ((conv => whnf); first | (with_reducible first | refine br_t ?_ | refine br_f ?_ | refine za ?_ | refine zg ?_) | refine zsl ?_ | refine zsg ?_ | refine zss ?_ | refine zs1 ?_ | refine zse ?_ | refine zsn ?_ | refine zsc ?_ | refine zp ?_ | refine zq ?_ | (with_reducible first | refine bc (fun h => ?_) (fun h => ?_) | refine zt ?_ | refine zf ?_ | refine br_i (fun h => ?_) (fun h => ?_)) | refine zg ?_ | refine zi ?_ | refine zb ?_)
        all_goals conv => whnf
        all_goals rfl
  · rw [if_neg h]
    have h8 : akchk a = 8 := by
      unfold akchk at h ⊢
      split
      · rename_i c; rw [if_pos c] at h; exact absurd rfl h
      · rfl
    rw [h8] at Hc
    refine fn_ok (by kernel_rfl) ty_ok Tryd.func20 rfl (fun _ _ => Tryd.call20 _ _) rfl ?_
    intro hw
    clear hw
    repeat' ((conv => whnf); first | (with_reducible first | refine br_t ?_ | refine br_f ?_ | refine za ?_ | refine zg ?_) | refine zsl ?_ | refine zsg ?_ | refine zss ?_ | refine zs1 ?_ | refine zse ?_ | refine zsn ?_ | refine zsc ?_ | refine zp ?_ | refine zq ?_ | (with_reducible first | refine bc (fun h => ?_) (fun h => ?_) | refine zt ?_ | refine zf ?_ | refine br_i (fun h => ?_) (fun h => ?_)) | refine zg ?_ | refine zi ?_ | refine zb ?_)
    all_goals conv => whnf
    all_goals rfl
end Go.Proofs.YtnalabphiaholaaDoor

namespace Go.Proofs.YtnalabphiaholaaDoor
open Go Go.RowKit Go.Sort Sx
open Go.Lib hiding intOf
theorem joinS_C : ∀ l : List Str, joinS l = joinC 32 l
  | [] => rfl
  | [a] => rfl
  | a :: b :: l => by
    show a ++ 32 :: joinS (b :: l) = a ++ 32 :: joinC 32 (b :: l)
    rw [joinS_C (b :: l)]
theorem rdPt_3 {wh : Str → Int × Bool} : ∀ l : List Str, rdPt wh l = (rd3 wh l).map fun p => ⟨p.1, p.2.1, p.2.2⟩
  | [] => rfl
  | [_] => rfl
  | [_, _] => rfl
  | [a, b, c] => by
    show (if _ then some _ else none) = Option.map _ (if _ then some _ else none)
    split <;> rfl
  | _ :: _ :: _ :: _ :: _ => rfl
theorem kindW_rng (w : Str) : 0 ≤ kindW w ∧ kindW w ≤ 6 := by
  unfold kindW
  repeat' split
  all_goals omega
theorem kindW_word {w : Str} {k : Int} (hk : k = 1 ∨ k = 2 ∨ k = 3 ∨ k = 4 ∨ k = 5 ∨ k = 6) : wordK k = w ↔ kindW w = k := by
  constructor
  · rintro rfl; exact kind_word hk
  · intro h
    unfold kindW at h
    repeat' (split at h; · rename_i e; subst h; exact e.symm)
    omega
theorem joinC_tl (c : UInt8) (a : Str) : ∀ l : List Str, (joinC c l).length ≤ (joinC c (a :: l)).length
  | [] => Nat.zero_le _
  | b :: l => by
    show _ ≤ (a ++ c :: joinC c (b :: l)).length
    rw [List.length_append, List.length_cons]; omega
theorem join_spl (c : UInt8) : ∀ s : Str, joinC c (spl c s) = s
  | [] => rfl
  | b :: l => by
    have ih := join_spl c l
    have hne := spl_ne c l
    rw [spl]
    split
    · rename_i h
      subst h
      cases e : spl b l with
      | nil => exact absurd e hne
      | cons x y => rw [e] at ih; show [] ++ b :: joinC b (x :: y) = _; rw [ih]; rfl
    · split
      · rename_i h t e
        rw [e] at ih
        cases t with
        | nil => exact congrArg (b :: ·) ih
        | cons x y => exact congrArg (b :: ·) ih
      · rename_i e; exact absurd e hne
theorem oc_cases (a : Ak) (s : Str) : (ordSV a = (ordT a, 0) ∧ ordT a = s ∧ backA s a = (a, 0)) ∨ (ordSV a = (ordT a, 0) ∧ ordT a ≠ s ∧ backA s a = (ak0, 12)) ∨ (ordSV a = ([], 8) ∧ backA s a = (ak0, 12)) := by
  unfold ordSV backA
  by_cases h : akchk a = 0
  · rw [if_pos h]
    by_cases e : ordT a = s
    · exact .inl ⟨rfl, e, if_pos ⟨h, e⟩⟩
    · exact .inr (.inl ⟨rfl, e, if_neg fun k => e k.2⟩)
  · rw [if_neg h]
    exact .inr (.inr ⟨rfl, if_neg fun k => h k.1⟩)
def kdI (kk : Int) (i : Nat) : Int := if kk < i then kk else 0
abbrev retAk (x : Ak × Int) : DV := .tup [x.1.dc, .one (i64 x.2)]
set_option maxHeartbeats 4000000 in
theorem cReadOrder_fn (s : Str) (hs : s.length ≤ 1000) : FnOK Tryd.prog 22 [.one (str s)] (retAk (rordV s)) := by
  have Hs := @split_fn s 32 (by omega)
  have Hw := cwords_fn
  have hl1 := spl_len 32 s
  have hl2 := spl_each 32 s
  obtain ⟨w0, t, hL⟩ : ∃ w0 t, spl 32 s = w0 :: t := by
    cases h : spl 32 s with
    | nil => exact absurd h (spl_ne 32 s)
    | cons a b => exact ⟨a, b, rfl⟩
  unfold rordV
  rw [hL] at Hs hl1 hl2 ⊢
  simp only [List.headD_cons, List.tail_cons]
  obtain ⟨kk, hkk⟩ : ∃ kk, kk = kindW w0 := ⟨_, rfl⟩
  have hk := kindW_rng w0
  have f1 := @kindW_word w0 1 (by omega)
  have f2 := @kindW_word w0 2 (by omega)
  have f3 := @kindW_word w0 3 (by omega)
  have f4 := @kindW_word w0 4 (by omega)
  have f5 := @kindW_word w0 5 (by omega)
  have f6 := @kindW_word w0 6 (by omega)
  rw [← hkk] at hk f1 f2 f3 f4 f5 f6 ⊢
  have g0 : ((w0 :: t).map fun s => [str s])[(0 : Int).toNat]? = some [str w0] := rfl
  have gl : ((w0 :: t).map fun s => [str s]).length = t.length + 1 := by simp
  refine fn_ok (by kernel_rfl) ty_ok Tryd.func22 rfl (fun _ _ => Tryd.call22 _ _) rfl ?_
  intro hw
  clear hw
  repeat' ((conv => whnf); first | (with_reducible first | refine br_t ?_ | refine br_f ?_ | refine za ?_ | refine zg ?_) | refine zsl ?_ | refine zsg ?_ | refine zss ?_ | refine zs1 ?_ | refine zse ?_ | refine zsn ?_ | refine zsc ?_ | (with_reducible first | refine zpa ?_ | refine zqa ?_) | refine zp ?_ | refine zq ?_ | (with_reducible first | refine bc (fun h => ?_) (fun h => ?_) | refine zt ?_ | refine zf ?_ | refine br_i (fun h => ?_) (fun h => ?_)) | refine zg ?_ | refine zi ?_ | refine zb ?_)
  refine loop_J (by kernel_rfl) ty_ok (σ := Nat) (fun i => [(19, sV (.int .i64 (i : Nat)))]) (fun i => [(5, .own [.d (u8 (kdI kk i)), .d (i64 0), .d (i64 0), .d (i64 0), .d (i64 0), .d (i64 0), .d (i64 0)])]) (fun i => i ≤ 7) (fun i => 7 - i) 0 (by omega) ?_ ?_
  · have e0 : kdI kk 0 = 0 := by unfold kdI; split <;> omega
    rw [e0]
    (conv => whnf); exact zent
  · intro i hi
    by_cases h7 : i = 7
    · subst h7
      have e7 : kdI kk 7 = kk := by unfold kdI; split <;> omega
      rw [e7]
      have hT : List.drop (Int.toNat 1) (List.take ((((w0 :: t).map fun s => [str s]).length : Nat) : Int).toNat ((w0 :: t).map fun s => [str s])) = t.map fun s => [str s] := by
        rw [Int.toNat_natCast, List.take_length]; rfl
      have ht : ∀ x ∈ t, x.length ≤ s.length := fun x hx => hl2 x (List.mem_cons_of_mem _ hx)
      have hj : (joinC 32 t).length ≤ 1000000 := by
        have h1 := join_spl 32 s
        rw [hL] at h1
        have h2 := joinC_tl 32 w0 t
        rw [h1] at h2
        omega
      have Hr := creadPoint_fn t (by simp only [List.length_cons] at hl1; omega) fun x hx => Nat.le_trans (ht x hx) (by omega)
      have Hj := @join_fn t 32 (by simp only [List.length_cons] at hl1; omega) hj
      rw [show strs t = .list 1 (List.drop (Int.toNat 1) (List.take ((((w0 :: t).map fun s => [str s]).length : Nat) : Int).toNat ((w0 :: t).map fun s => [str s]))) by rw [hT]] at Hr Hj
      have Ho := whole_fn (joinC 32 t) hj
      have Hn := cReadNumber_fn (joinC 32 t) hj
      clear hT f1 f2 f3 f4 f5 f6 hkk hs hl1 hl2 ht
      unfold rvK
      rw [rdPt_3, joinS_C]
      rcases (show kk = 0 ∨ kk = 1 ∨ kk = 2 ∨ kk = 3 ∨ kk = 4 ∨ kk = 5 ∨ kk = 6 by omega) with rfl | rfl | rfl | rfl | rfl | rfl | rfl
      · rw [if_neg (by decide), if_neg (by decide), if_neg (by decide)]
        have Hor := cOrder_fn ⟨0, ⟨0, 0, 0⟩, 0, 0, 0⟩
        rcases oc_cases ⟨0, ⟨0, 0, 0⟩, 0, 0, 0⟩ s with ⟨e, h, b⟩ | ⟨e, h, b⟩ | ⟨e, b⟩
        all_goals rw [e] at Hor
        all_goals rw [b]
        all_goals simp only [retS, Ak.dc] at Hor ⊢
        all_goals clear e b
        repeat' ((conv => whnf); first | (with_reducible first | refine br_t ?_ | refine br_f ?_ | refine za ?_ | refine zg ?_) | refine zsl ?_ | refine zsg ?_ | refine zss ?_ | refine zs1 ?_ | refine zse ?_ | refine zsn ?_ | refine zsc ?_ | (with_reducible first | refine zpa ?_ | refine zqa ?_) | refine zp ?_ | refine zq ?_ | (with_reducible first | refine bc (fun h => ?_) (fun h => ?_) | refine zt ?_ | refine zf ?_ | refine br_i (fun h => ?_) (fun h => ?_)) | refine zg ?_ | refine zi ?_ | refine zb ?_)
        all_goals conv => whnf
        all_goals first | rfl | contradiction
      · rw [if_pos (by decide)]
        cases hp : rd3 wholeV t with
        | none =>
          rw [hp] at Hr
          simp only [Option.map_none, retPo] at Hr ⊢
          repeat' ((conv => whnf); first | (with_reducible first | refine br_t ?_ | refine br_f ?_ | refine za ?_ | refine zg ?_) | refine zsl ?_ | refine zsg ?_ | refine zss ?_ | refine zs1 ?_ | refine zse ?_ | refine zsn ?_ | refine zsc ?_ | (with_reducible first | refine zpa ?_ | refine zqa ?_) | refine zp ?_ | refine zq ?_ | (with_reducible first | refine bc (fun h => ?_) (fun h => ?_) | refine zt ?_ | refine zf ?_ | refine br_i (fun h => ?_) (fun h => ?_)) | refine zg ?_ | refine zi ?_ | refine zb ?_)
          all_goals conv => whnf
          all_goals first | rfl | contradiction
        | some p =>
          obtain ⟨p1, p2, p3⟩ := p
          rw [hp] at Hr
          simp only [Option.map_some, retPo] at Hr ⊢
          have Hor := cOrder_fn ⟨1, ⟨p1, p2, p3⟩, 0, 0, 0⟩
          rcases oc_cases ⟨1, ⟨p1, p2, p3⟩, 0, 0, 0⟩ s with ⟨e, h, b⟩ | ⟨e, h, b⟩ | ⟨e, b⟩
          all_goals rw [e] at Hor
          all_goals rw [b]
          all_goals simp only [retS, Ak.dc] at Hor ⊢
          all_goals clear e b
          repeat' ((conv => whnf); first | (with_reducible first | refine br_t ?_ | refine br_f ?_ | refine za ?_ | refine zg ?_) | refine zsl ?_ | refine zsg ?_ | refine zss ?_ | refine zs1 ?_ | refine zse ?_ | refine zsn ?_ | refine zsc ?_ | (with_reducible first | refine zpa ?_ | refine zqa ?_) | refine zp ?_ | refine zq ?_ | (with_reducible first | refine bc (fun h => ?_) (fun h => ?_) | refine zt ?_ | refine zf ?_ | refine br_i (fun h => ?_) (fun h => ?_)) | refine zg ?_ | refine zi ?_ | refine zb ?_)
          all_goals conv => whnf
          all_goals first | rfl | contradiction
      · rw [if_neg (by decide), if_pos rfl]
        generalize wholeV (joinC 32 t) = q at *
        obtain ⟨qn, qb⟩ := q
        simp only [retWh] at Ho ⊢
        cases qb
        · rw [if_neg (by decide)]
          repeat' ((conv => whnf); first | (with_reducible first | refine br_t ?_ | refine br_f ?_ | refine za ?_ | refine zg ?_) | refine zsl ?_ | refine zsg ?_ | refine zss ?_ | refine zs1 ?_ | refine zse ?_ | refine zsn ?_ | refine zsc ?_ | (with_reducible first | refine zpa ?_ | refine zqa ?_) | refine zp ?_ | refine zq ?_ | (with_reducible first | refine bc (fun h => ?_) (fun h => ?_) | refine zt ?_ | refine zf ?_ | refine br_i (fun h => ?_) (fun h => ?_)) | refine zg ?_ | refine zi ?_ | refine zb ?_)
          all_goals conv => whnf
          all_goals first | rfl | contradiction
        · rw [if_pos rfl]
          have Hor := cOrder_fn ⟨2, ⟨0, 0, 0⟩, qn, 0, 0⟩
          rcases oc_cases ⟨2, ⟨0, 0, 0⟩, qn, 0, 0⟩ s with ⟨e, h, b⟩ | ⟨e, h, b⟩ | ⟨e, b⟩
          all_goals rw [e] at Hor
          all_goals rw [b]
          all_goals simp only [retS, Ak.dc] at Hor ⊢
          all_goals clear e b
          repeat' ((conv => whnf); first | (with_reducible first | refine br_t ?_ | refine br_f ?_ | refine za ?_ | refine zg ?_) | refine zsl ?_ | refine zsg ?_ | refine zss ?_ | refine zs1 ?_ | refine zse ?_ | refine zsn ?_ | refine zsc ?_ | (with_reducible first | refine zpa ?_ | refine zqa ?_) | refine zp ?_ | refine zq ?_ | (with_reducible first | refine bc (fun h => ?_) (fun h => ?_) | refine zt ?_ | refine zf ?_ | refine br_i (fun h => ?_) (fun h => ?_)) | refine zg ?_ | refine zi ?_ | refine zb ?_)
          all_goals conv => whnf
          all_goals first | rfl | contradiction
      · rw [if_pos (by decide)]
        cases hp : rd3 wholeV t with
        | none =>
          rw [hp] at Hr
          simp only [Option.map_none, retPo] at Hr ⊢
          repeat' ((conv => whnf); first | (with_reducible first | refine br_t ?_ | refine br_f ?_ | refine za ?_ | refine zg ?_) | refine zsl ?_ | refine zsg ?_ | refine zss ?_ | refine zs1 ?_ | refine zse ?_ | refine zsn ?_ | refine zsc ?_ | (with_reducible first | refine zpa ?_ | refine zqa ?_) | refine zp ?_ | refine zq ?_ | (with_reducible first | refine bc (fun h => ?_) (fun h => ?_) | refine zt ?_ | refine zf ?_ | refine br_i (fun h => ?_) (fun h => ?_)) | refine zg ?_ | refine zi ?_ | refine zb ?_)
          all_goals conv => whnf
          all_goals first | rfl | contradiction
        | some p =>
          obtain ⟨p1, p2, p3⟩ := p
          rw [hp] at Hr
          simp only [Option.map_some, retPo] at Hr ⊢
          have Hor := cOrder_fn ⟨3, ⟨p1, p2, p3⟩, 0, 0, 0⟩
          rcases oc_cases ⟨3, ⟨p1, p2, p3⟩, 0, 0, 0⟩ s with ⟨e, h, b⟩ | ⟨e, h, b⟩ | ⟨e, b⟩
          all_goals rw [e] at Hor
          all_goals rw [b]
          all_goals simp only [retS, Ak.dc] at Hor ⊢
          all_goals clear e b
          repeat' ((conv => whnf); first | (with_reducible first | refine br_t ?_ | refine br_f ?_ | refine za ?_ | refine zg ?_) | refine zsl ?_ | refine zsg ?_ | refine zss ?_ | refine zs1 ?_ | refine zse ?_ | refine zsn ?_ | refine zsc ?_ | (with_reducible first | refine zpa ?_ | refine zqa ?_) | refine zp ?_ | refine zq ?_ | (with_reducible first | refine bc (fun h => ?_) (fun h => ?_) | refine zt ?_ | refine zf ?_ | refine br_i (fun h => ?_) (fun h => ?_)) | refine zg ?_ | refine zi ?_ | refine zb ?_)
          all_goals conv => whnf
          all_goals first | rfl | contradiction
      · rw [if_neg (by decide), if_neg (by decide), if_pos rfl]
        generalize readV (joinC 32 t) = q at *
        obtain ⟨⟨qn, qd⟩, qe⟩ := q
        simp only [retR3] at Hn ⊢
        by_cases h0 : qe = 0
        · subst h0
          rw [if_pos rfl]
          have Hor := cOrder_fn ⟨4, ⟨0, 0, 0⟩, 0, qn, qd⟩
          rcases oc_cases ⟨4, ⟨0, 0, 0⟩, 0, qn, qd⟩ s with ⟨e, h, b⟩ | ⟨e, h, b⟩ | ⟨e, b⟩
          all_goals rw [e] at Hor
          all_goals rw [b]
          all_goals simp only [retS, Ak.dc] at Hor ⊢
          all_goals clear e b
          repeat' ((conv => whnf); first | (with_reducible first | refine br_t ?_ | refine br_f ?_ | refine za ?_ | refine zg ?_) | refine zsl ?_ | refine zsg ?_ | refine zss ?_ | refine zs1 ?_ | refine zse ?_ | refine zsn ?_ | refine zsc ?_ | (with_reducible first | refine zpa ?_ | refine zqa ?_) | refine zp ?_ | refine zq ?_ | (with_reducible first | refine bc (fun h => ?_) (fun h => ?_) | refine zt ?_ | refine zf ?_ | refine br_i (fun h => ?_) (fun h => ?_)) | refine zg ?_ | refine zi ?_ | refine zb ?_)
          all_goals conv => whnf
          all_goals first | rfl | contradiction
        · rw [if_neg h0]
          repeat' ((conv => whnf); first | (with_reducible first | refine br_t ?_ | refine br_f ?_ | refine za ?_ | refine zg ?_) | refine zsl ?_ | refine zsg ?_ | refine zss ?_ | refine zs1 ?_ | refine zse ?_ | refine zsn ?_ | refine zsc ?_ | (with_reducible first | refine zpa ?_ | refine zqa ?_) | refine zp ?_ | refine zq ?_ | (with_reducible first | refine bc (fun h => ?_) (fun h => ?_) | refine zt ?_ | refine zf ?_ | refine br_i (fun h => ?_) (fun h => ?_)) | refine zg ?_ | refine zi ?_ | refine zb ?_)
          all_goals conv => whnf
          all_goals first | rfl | contradiction
      · rw [if_neg (by decide), if_neg (by decide), if_neg (by decide)]
        have Hor := cOrder_fn ⟨5, ⟨0, 0, 0⟩, 0, 0, 0⟩
        rcases oc_cases ⟨5, ⟨0, 0, 0⟩, 0, 0, 0⟩ s with ⟨e, h, b⟩ | ⟨e, h, b⟩ | ⟨e, b⟩
        all_goals rw [e] at Hor
        all_goals rw [b]
        all_goals simp only [retS, Ak.dc] at Hor ⊢
        all_goals clear e b
        repeat' ((conv => whnf); first | (with_reducible first | refine br_t ?_ | refine br_f ?_ | refine za ?_ | refine zg ?_) | refine zsl ?_ | refine zsg ?_ | refine zss ?_ | refine zs1 ?_ | refine zse ?_ | refine zsn ?_ | refine zsc ?_ | (with_reducible first | refine zpa ?_ | refine zqa ?_) | refine zp ?_ | refine zq ?_ | (with_reducible first | refine bc (fun h => ?_) (fun h => ?_) | refine zt ?_ | refine zf ?_ | refine br_i (fun h => ?_) (fun h => ?_)) | refine zg ?_ | refine zi ?_ | refine zb ?_)
        all_goals conv => whnf
        all_goals first | rfl | contradiction
      · rw [if_neg (by decide), if_neg (by decide), if_neg (by decide)]
        have Hor := cOrder_fn ⟨6, ⟨0, 0, 0⟩, 0, 0, 0⟩
        rcases oc_cases ⟨6, ⟨0, 0, 0⟩, 0, 0, 0⟩ s with ⟨e, h, b⟩ | ⟨e, h, b⟩ | ⟨e, b⟩
        all_goals rw [e] at Hor
        all_goals rw [b]
        all_goals simp only [retS, Ak.dc] at Hor ⊢
        all_goals clear e b
        repeat' ((conv => whnf); first | (with_reducible first | refine br_t ?_ | refine br_f ?_ | refine za ?_ | refine zg ?_) | refine zsl ?_ | refine zsg ?_ | refine zss ?_ | refine zs1 ?_ | refine zse ?_ | refine zsn ?_ | refine zsc ?_ | (with_reducible first | refine zpa ?_ | refine zqa ?_) | refine zp ?_ | refine zq ?_ | (with_reducible first | refine bc (fun h => ?_) (fun h => ?_) | refine zt ?_ | refine zf ?_ | refine br_i (fun h => ?_) (fun h => ?_)) | refine zg ?_ | refine zi ?_ | refine zb ?_)
        all_goals conv => whnf
        all_goals first | rfl | contradiction
    · rcases (show i = 0 ∨ i = 1 ∨ i = 2 ∨ i = 3 ∨ i = 4 ∨ i = 5 ∨ i = 6 by omega) with rfl | rfl | rfl | rfl | rfl | rfl | rfl
      · have e0 : kdI kk 0 = kdI kk 1 := by
          unfold kdI
          repeat' split
          all_goals omega
        rw [e0]
        repeat' ((conv => whnf); first | (with_reducible first | refine br_t ?_ | refine br_f ?_ | refine za ?_ | refine zg ?_) | refine zsl ?_ | refine zsg ?_ | refine zss ?_ | refine zs1 ?_ | refine zse ?_ | refine zsn ?_ | refine zsc ?_ | (with_reducible first | refine zpa ?_ | refine zqa ?_) | refine zp ?_ | refine zq ?_ | (with_reducible first | refine bc (fun h => ?_) (fun h => ?_) | refine zt ?_ | refine zf ?_ | refine br_i (fun h => ?_) (fun h => ?_)) | refine zg ?_ | refine zi ?_ | refine zb ?_)
        all_goals conv => whnf
        all_goals first | contradiction | refine ⟨1, by omega, ?_, by omega⟩
        (conv => whnf); exact zent
      · by_cases hw : wPut = w0
        · have ek : kk = 1 := f1.1 hw
          have e0 : kdI kk 1 = 0 := by unfold kdI; rw [if_neg (by omega)]
          have e1 : kdI kk 2 = 1 := by unfold kdI; rw [if_pos (by omega)]; omega
          rw [e0]
          repeat' ((conv => whnf); first | (with_reducible first | refine br_t ?_ | refine br_f ?_ | refine za ?_ | refine zg ?_) | refine zsl ?_ | refine zsg ?_ | refine zss ?_ | refine zs1 ?_ | refine zse ?_ | refine zsn ?_ | refine zsc ?_ | (with_reducible first | refine zpa ?_ | refine zqa ?_) | refine zp ?_ | refine zq ?_ | (with_reducible first | refine bc (fun h => ?_) (fun h => ?_) | refine zt ?_ | refine zf ?_ | refine br_i (fun h => ?_) (fun h => ?_)) | refine zg ?_ | refine zi ?_ | refine zb ?_)
          all_goals conv => whnf
          all_goals first | contradiction | refine ⟨2, by omega, ?_, by omega⟩
          all_goals rw [e1]
          (conv => whnf); exact zent
        · have ek : kk ≠ 1 := fun h => hw (f1.2 h)
          have e0 : kdI kk 1 = kdI kk 2 := by
            unfold kdI
            repeat' split
            all_goals omega
          rw [e0]
          repeat' ((conv => whnf); first | (with_reducible first | refine br_t ?_ | refine br_f ?_ | refine za ?_ | refine zg ?_) | refine zsl ?_ | refine zsg ?_ | refine zss ?_ | refine zs1 ?_ | refine zse ?_ | refine zsn ?_ | refine zsc ?_ | (with_reducible first | refine zpa ?_ | refine zqa ?_) | refine zp ?_ | refine zq ?_ | (with_reducible first | refine bc (fun h => ?_) (fun h => ?_) | refine zt ?_ | refine zf ?_ | refine br_i (fun h => ?_) (fun h => ?_)) | refine zg ?_ | refine zi ?_ | refine zb ?_)
          all_goals conv => whnf
          all_goals first | contradiction | refine ⟨2, by omega, ?_, by omega⟩
          (conv => whnf); exact zent
      · by_cases hw : wTake = w0
        · have ek : kk = 2 := f2.1 hw
          have e0 : kdI kk 2 = 0 := by unfold kdI; rw [if_neg (by omega)]
          have e1 : kdI kk 3 = 2 := by unfold kdI; rw [if_pos (by omega)]; omega
          rw [e0]
          repeat' ((conv => whnf); first | (with_reducible first | refine br_t ?_ | refine br_f ?_ | refine za ?_ | refine zg ?_) | refine zsl ?_ | refine zsg ?_ | refine zss ?_ | refine zs1 ?_ | refine zse ?_ | refine zsn ?_ | refine zsc ?_ | (with_reducible first | refine zpa ?_ | refine zqa ?_) | refine zp ?_ | refine zq ?_ | (with_reducible first | refine bc (fun h => ?_) (fun h => ?_) | refine zt ?_ | refine zf ?_ | refine br_i (fun h => ?_) (fun h => ?_)) | refine zg ?_ | refine zi ?_ | refine zb ?_)
          all_goals conv => whnf
          all_goals first | contradiction | refine ⟨3, by omega, ?_, by omega⟩
          all_goals rw [e1]
          (conv => whnf); exact zent
        · have ek : kk ≠ 2 := fun h => hw (f2.2 h)
          have e0 : kdI kk 2 = kdI kk 3 := by
            unfold kdI
            repeat' split
            all_goals omega
          rw [e0]
          repeat' ((conv => whnf); first | (with_reducible first | refine br_t ?_ | refine br_f ?_ | refine za ?_ | refine zg ?_) | refine zsl ?_ | refine zsg ?_ | refine zss ?_ | refine zs1 ?_ | refine zse ?_ | refine zsn ?_ | refine zsc ?_ | (with_reducible first | refine zpa ?_ | refine zqa ?_) | refine zp ?_ | refine zq ?_ | (with_reducible first | refine bc (fun h => ?_) (fun h => ?_) | refine zt ?_ | refine zf ?_ | refine br_i (fun h => ?_) (fun h => ?_)) | refine zg ?_ | refine zi ?_ | refine zb ?_)
          all_goals conv => whnf
          all_goals first | contradiction | refine ⟨3, by omega, ?_, by omega⟩
          (conv => whnf); exact zent
      · by_cases hw : wChange = w0
        · have ek : kk = 3 := f3.1 hw
          have e0 : kdI kk 3 = 0 := by unfold kdI; rw [if_neg (by omega)]
          have e1 : kdI kk 4 = 3 := by unfold kdI; rw [if_pos (by omega)]; omega
          rw [e0]
          repeat' ((conv => whnf); first | (with_reducible first | refine br_t ?_ | refine br_f ?_ | refine za ?_ | refine zg ?_) | refine zsl ?_ | refine zsg ?_ | refine zss ?_ | refine zs1 ?_ | refine zse ?_ | refine zsn ?_ | refine zsc ?_ | (with_reducible first | refine zpa ?_ | refine zqa ?_) | refine zp ?_ | refine zq ?_ | (with_reducible first | refine bc (fun h => ?_) (fun h => ?_) | refine zt ?_ | refine zf ?_ | refine br_i (fun h => ?_) (fun h => ?_)) | refine zg ?_ | refine zi ?_ | refine zb ?_)
          all_goals conv => whnf
          all_goals first | contradiction | refine ⟨4, by omega, ?_, by omega⟩
          all_goals rw [e1]
          (conv => whnf); exact zent
        · have ek : kk ≠ 3 := fun h => hw (f3.2 h)
          have e0 : kdI kk 3 = kdI kk 4 := by
            unfold kdI
            repeat' split
            all_goals omega
          rw [e0]
          repeat' ((conv => whnf); first | (with_reducible first | refine br_t ?_ | refine br_f ?_ | refine za ?_ | refine zg ?_) | refine zsl ?_ | refine zsg ?_ | refine zss ?_ | refine zs1 ?_ | refine zse ?_ | refine zsn ?_ | refine zsc ?_ | (with_reducible first | refine zpa ?_ | refine zqa ?_) | refine zp ?_ | refine zq ?_ | (with_reducible first | refine bc (fun h => ?_) (fun h => ?_) | refine zt ?_ | refine zf ?_ | refine br_i (fun h => ?_) (fun h => ?_)) | refine zg ?_ | refine zi ?_ | refine zb ?_)
          all_goals conv => whnf
          all_goals first | contradiction | refine ⟨4, by omega, ?_, by omega⟩
          (conv => whnf); exact zent
      · by_cases hw : wMove = w0
        · have ek : kk = 4 := f4.1 hw
          have e0 : kdI kk 4 = 0 := by unfold kdI; rw [if_neg (by omega)]
          have e1 : kdI kk 5 = 4 := by unfold kdI; rw [if_pos (by omega)]; omega
          rw [e0]
          repeat' ((conv => whnf); first | (with_reducible first | refine br_t ?_ | refine br_f ?_ | refine za ?_ | refine zg ?_) | refine zsl ?_ | refine zsg ?_ | refine zss ?_ | refine zs1 ?_ | refine zse ?_ | refine zsn ?_ | refine zsc ?_ | (with_reducible first | refine zpa ?_ | refine zqa ?_) | refine zp ?_ | refine zq ?_ | (with_reducible first | refine bc (fun h => ?_) (fun h => ?_) | refine zt ?_ | refine zf ?_ | refine br_i (fun h => ?_) (fun h => ?_)) | refine zg ?_ | refine zi ?_ | refine zb ?_)
          all_goals conv => whnf
          all_goals first | contradiction | refine ⟨5, by omega, ?_, by omega⟩
          all_goals rw [e1]
          (conv => whnf); exact zent
        · have ek : kk ≠ 4 := fun h => hw (f4.2 h)
          have e0 : kdI kk 4 = kdI kk 5 := by
            unfold kdI
            repeat' split
            all_goals omega
          rw [e0]
          repeat' ((conv => whnf); first | (with_reducible first | refine br_t ?_ | refine br_f ?_ | refine za ?_ | refine zg ?_) | refine zsl ?_ | refine zsg ?_ | refine zss ?_ | refine zs1 ?_ | refine zse ?_ | refine zsn ?_ | refine zsc ?_ | (with_reducible first | refine zpa ?_ | refine zqa ?_) | refine zp ?_ | refine zq ?_ | (with_reducible first | refine bc (fun h => ?_) (fun h => ?_) | refine zt ?_ | refine zf ?_ | refine br_i (fun h => ?_) (fun h => ?_)) | refine zg ?_ | refine zi ?_ | refine zb ?_)
          all_goals conv => whnf
          all_goals first | contradiction | refine ⟨5, by omega, ?_, by omega⟩
          (conv => whnf); exact zent
      · by_cases hw : wLead = w0
        · have ek : kk = 5 := f5.1 hw
          have e0 : kdI kk 5 = 0 := by unfold kdI; rw [if_neg (by omega)]
          have e1 : kdI kk 6 = 5 := by unfold kdI; rw [if_pos (by omega)]; omega
          rw [e0]
          repeat' ((conv => whnf); first | (with_reducible first | refine br_t ?_ | refine br_f ?_ | refine za ?_ | refine zg ?_) | refine zsl ?_ | refine zsg ?_ | refine zss ?_ | refine zs1 ?_ | refine zse ?_ | refine zsn ?_ | refine zsc ?_ | (with_reducible first | refine zpa ?_ | refine zqa ?_) | refine zp ?_ | refine zq ?_ | (with_reducible first | refine bc (fun h => ?_) (fun h => ?_) | refine zt ?_ | refine zf ?_ | refine br_i (fun h => ?_) (fun h => ?_)) | refine zg ?_ | refine zi ?_ | refine zb ?_)
          all_goals conv => whnf
          all_goals first | contradiction | refine ⟨6, by omega, ?_, by omega⟩
          all_goals rw [e1]
          (conv => whnf); exact zent
        · have ek : kk ≠ 5 := fun h => hw (f5.2 h)
          have e0 : kdI kk 5 = kdI kk 6 := by
            unfold kdI
            repeat' split
            all_goals omega
          rw [e0]
          repeat' ((conv => whnf); first | (with_reducible first | refine br_t ?_ | refine br_f ?_ | refine za ?_ | refine zg ?_) | refine zsl ?_ | refine zsg ?_ | refine zss ?_ | refine zs1 ?_ | refine zse ?_ | refine zsn ?_ | refine zsc ?_ | (with_reducible first | refine zpa ?_ | refine zqa ?_) | refine zp ?_ | refine zq ?_ | (with_reducible first | refine bc (fun h => ?_) (fun h => ?_) | refine zt ?_ | refine zf ?_ | refine br_i (fun h => ?_) (fun h => ?_)) | refine zg ?_ | refine zi ?_ | refine zb ?_)
          all_goals conv => whnf
          all_goals first | contradiction | refine ⟨6, by omega, ?_, by omega⟩
          (conv => whnf); exact zent
      · by_cases hw : wClose = w0
        · have ek : kk = 6 := f6.1 hw
          have e0 : kdI kk 6 = 0 := by unfold kdI; rw [if_neg (by omega)]
          have e1 : kdI kk 7 = 6 := by unfold kdI; rw [if_pos (by omega)]; omega
          rw [e0]
          repeat' ((conv => whnf); first | (with_reducible first | refine br_t ?_ | refine br_f ?_ | refine za ?_ | refine zg ?_) | refine zsl ?_ | refine zsg ?_ | refine zss ?_ | refine zs1 ?_ | refine zse ?_ | refine zsn ?_ | refine zsc ?_ | (with_reducible first | refine zpa ?_ | refine zqa ?_) | refine zp ?_ | refine zq ?_ | (with_reducible first | refine bc (fun h => ?_) (fun h => ?_) | refine zt ?_ | refine zf ?_ | refine br_i (fun h => ?_) (fun h => ?_)) | refine zg ?_ | refine zi ?_ | refine zb ?_)
          all_goals conv => whnf
          all_goals first | contradiction | refine ⟨7, by omega, ?_, by omega⟩
          all_goals rw [e1]
          (conv => whnf); exact zent
        · have ek : kk ≠ 6 := fun h => hw (f6.2 h)
          have e0 : kdI kk 6 = kdI kk 7 := by
            unfold kdI
            repeat' split
            all_goals omega
          rw [e0]
          repeat' ((conv => whnf); first | (with_reducible first | refine br_t ?_ | refine br_f ?_ | refine za ?_ | refine zg ?_) | refine zsl ?_ | refine zsg ?_ | refine zss ?_ | refine zs1 ?_ | refine zse ?_ | refine zsn ?_ | refine zsc ?_ | (with_reducible first | refine zpa ?_ | refine zqa ?_) | refine zp ?_ | refine zq ?_ | (with_reducible first | refine bc (fun h => ?_) (fun h => ?_) | refine zt ?_ | refine zf ?_ | refine br_i (fun h => ?_) (fun h => ?_)) | refine zg ?_ | refine zi ?_ | refine zb ?_)
          all_goals conv => whnf
          all_goals first | contradiction | refine ⟨7, by omega, ?_, by omega⟩
          (conv => whnf); exact zent
end Go.Proofs.YtnalabphiaholaaDoor
