import Derived.Test.YtgdpogdgpfjnoaaDoorGCAM
import Derived.Test.YtgdpogdgpfjnoaaDoorGCAL
import Derived.Test.YtgdpogdgpfjnoaaDoorGCAK
import Derived.Test.YtgdpogdgpfjnoaaDoorGCAJ
set_option linter.all false
namespace Go.Proofs.YtgdpogdgpfjnoaaDoor
open Go.RowKit Go.Sort Sx Go.Lib
structure Reads {α : Type} (wr : α → Str) (good : α → Prop) (bad : α) (f : Str → α × Int) : Prop where
  ok : ∀ s, (f s).2 = 0 → good (f s).1 ∧ wr (f s).1 = s
  no : ∀ s, (f s).2 ≠ 0 → f s = (bad, 12)
  of : ∀ a, good a → f (wr a) = (a, 0)
def wPut : Str := [112, 117, 116]
def wTake : Str := [116, 97, 107, 101]
def wChange : Str := [99, 104, 97, 110, 103, 101]
def wMove : Str := [109, 111, 118, 101]
def wLead : Str := [108, 101, 97, 100]
def wClose : Str := [99, 108, 111, 115, 101]
def wordK (k : Int) : Str := if k = 1 then wPut else if k = 2 then wTake else if k = 3 then wChange else if k = 4 then wMove else if k = 5 then wLead else if k = 6 then wClose else []
def kindW (w : Str) : Int := if w = wPut then 1 else if w = wTake then 2 else if w = wChange then 3 else if w = wMove then 4 else if w = wLead then 5 else if w = wClose then 6 else 0
def pointS (p : Pt) : Str := itoa p.id ++ 32 :: (itoa p.a ++ 32 :: itoa p.b)
def akchk (a : Ak) : Int := if formV a = true ∧ (a.k = 1 ∨ a.k = 3 → a.p.chk = 0) ∧ (a.k = 2 → 0 ≤ a.id ∧ a.id ≤ 65535) ∧ (a.k = 4 → askd a.n a.d = 0) then 0 else 8
def ordT (a : Ak) : Str := if a.k = 1 ∨ a.k = 3 then wordK a.k ++ 32 :: pointS a.p else if a.k = 2 then wordK 2 ++ 32 :: itoa a.id else if a.k = 4 then wordK 4 ++ 32 :: wrtV a.n a.d else wordK a.k
def ordSV (a : Ak) : Str × Int := if akchk a = 0 then (ordT a, 0) else ([], 8)
abbrev ak0 : Ak := ⟨0, ⟨0, 0, 0⟩, 0, 0, 0⟩
def joinS : List Str → Str
  | [] => []
  | [a] => a
  | a :: l => a ++ 32 :: joinS l
def rdPt (wh : Str → Int × Bool) : List Str → Option Pt
  | [a, b, c] => if (wh a).2 = true ∧ (wh b).2 = true ∧ (wh c).2 = true then some ⟨(wh a).1, (wh b).1, (wh c).1⟩ else none
  | _ => none
def backA (s : Str) (a : Ak) : Ak × Int := if akchk a = 0 ∧ ordT a = s then (a, 0) else (ak0, 12)
def rvK (s : Str) (k : Int) (t : List Str) : Ak × Int :=
  if k = 1 ∨ k = 3 then (match rdPt wholeV t with | some p => backA s ⟨k, p, 0, 0, 0⟩ | none => (ak0, 12))
  else if k = 2 then (if (wholeV (joinS t)).2 = true then backA s ⟨2, ⟨0, 0, 0⟩, (wholeV (joinS t)).1, 0, 0⟩ else (ak0, 12))
  else if k = 4 then (if (readV (joinS t)).2 = 0 then backA s ⟨4, ⟨0, 0, 0⟩, 0, (readV (joinS t)).1.1, (readV (joinS t)).1.2⟩ else (ak0, 12))
  else backA s ⟨k, ⟨0, 0, 0⟩, 0, 0, 0⟩
def rordV (s : Str) : Ak × Int := rvK s (kindW ((spl 32 s).headD [])) (spl 32 s).tail
theorem backA_ok {s : Str} {a : Ak} (h : (backA s a).2 = 0) : akchk (backA s a).1 = 0 ∧ ordT (backA s a).1 = s := by
  unfold backA at h ⊢
  split at h
  · rename_i c; rw [if_pos c]; exact c
  · cases h
theorem backA_no {s : Str} {a : Ak} (h : (backA s a).2 ≠ 0) : backA s a = (ak0, 12) := by
  unfold backA at h ⊢
  split at h
  · exact absurd rfl h
  · rename_i c; rw [if_neg c]
theorem backA_of {s : Str} {a : Ak} (h : akchk a = 0) (e : ordT a = s) : backA s a = (a, 0) := by unfold backA; rw [if_pos ⟨h, e⟩]
theorem akchk_ok {a : Ak} (h : akchk a = 0) : formV a = true ∧ (a.k = 1 ∨ a.k = 3 → a.p.chk = 0) ∧ (a.k = 2 → 0 ≤ a.id ∧ a.id ≤ 65535) ∧ (a.k = 4 → askd a.n a.d = 0) := by
  unfold akchk at h
  split at h
  · assumption
  · cases h
theorem kind_word {k : Int} (h : k = 1 ∨ k = 2 ∨ k = 3 ∨ k = 4 ∨ k = 5 ∨ k = 6) : kindW (wordK k) = k := by
  rcases h with rfl | rfl | rfl | rfl | rfl | rfl <;> rfl
theorem word_no {k : Int} : (32 : UInt8) ∉ wordK k := by
  unfold wordK
  repeat' split
  all_goals decide
theorem itoa_no32 (n : Int) : (32 : UInt8) ∉ itoa n := itoa_no (by decide) (by decide)
theorem wrt_no32 (n d : Int) : (32 : UInt8) ∉ wrtV n d := by
  unfold wrtV
  split
  · exact itoa_no32 n
  · intro h
    rcases List.mem_append.1 h with h | h
    · exact itoa_no32 n h
    · rcases List.mem_cons.1 h with h | h
      · exact absurd h (by decide)
      · exact itoa_no32 d h
theorem spl_point (p : Pt) : spl 32 (pointS p) = [itoa p.id, itoa p.a, itoa p.b] := by
  unfold pointS
  rw [spl_at _ (itoa_no32 _), spl_at _ (itoa_no32 _), spl_no (itoa_no32 _)]
theorem pt_fit {p : Pt} (h : p.chk = 0) : fitI p.id ∧ fitI p.a ∧ fitI p.b := by
  obtain ⟨h1, h2, h3, h4, h5, h6⟩ := cpt_ok (i := p.id) (a := p.a) (b := p.b) h
  exact ⟨⟨by omega, by omega⟩, ⟨by omega, by omega⟩, ⟨by omega, by omega⟩⟩
theorem askd_fit {n d : Int} (h : askd n d = 0) : chk n d = 0 ∧ fitI n ∧ fitI d := by
  obtain ⟨h1, h2, h3, h4, h5⟩ := askd_ok h
  exact ⟨h1, ⟨by omega, by omega⟩, ⟨by omega, by omega⟩⟩
theorem rordV_form (s : Str) : rordV s = (ak0, 12) ∨ ∃ a, rordV s = backA s a := by
  unfold rordV rvK
  split
  · split
    · exact .inr ⟨_, rfl⟩
    · exact .inl rfl
  · split
    · split
      · exact .inr ⟨_, rfl⟩
      · exact .inl rfl
    · split
      · split
        · exact .inr ⟨_, rfl⟩
        · exact .inl rfl
      · exact .inr ⟨_, rfl⟩
theorem rdPt_of {wh : Str → Int × Bool} (hw : ∀ n, fitI n → wh (itoa n) = (n, true)) {p : Pt} (h : p.chk = 0) : rdPt wh [itoa p.id, itoa p.a, itoa p.b] = some p := by
  obtain ⟨h1, h2, h3⟩ := pt_fit h
  show (if (wh (itoa p.id)).2 = true ∧ (wh (itoa p.a)).2 = true ∧ (wh (itoa p.b)).2 = true then some (⟨(wh (itoa p.id)).1, (wh (itoa p.a)).1, (wh (itoa p.b)).1⟩ : Pt) else none) = _
  rw [hw _ h1, hw _ h2, hw _ h3, if_pos ⟨rfl, rfl, rfl⟩]
theorem ord_cases {a : Ak} (h : akchk a = 0) : (∃ k, (k = 1 ∨ k = 3) ∧ ∃ p : Pt, p.chk = 0 ∧ a = ⟨k, p, 0, 0, 0⟩) ∨ (∃ i, 0 ≤ i ∧ i ≤ 65535 ∧ a = ⟨2, ⟨0, 0, 0⟩, i, 0, 0⟩) ∨ (∃ n d, askd n d = 0 ∧ a = ⟨4, ⟨0, 0, 0⟩, 0, n, d⟩) ∨ ∃ k, (k = 5 ∨ k = 6) ∧ a = ⟨k, ⟨0, 0, 0⟩, 0, 0, 0⟩ := by
  obtain ⟨hf, h1, h2, h3⟩ := akchk_ok h
  obtain ⟨k, ⟨pi, pa, pb⟩, i, n, d⟩ := a
  unfold formV at hf
  have hf := of_decide_eq_true hf
  dsimp only at hf h1 h2 h3
  rcases hf with ⟨hk, e1, e2, e3⟩ | ⟨hk, e1, e2, e3, e4, e5⟩ | ⟨hk, e1, e2, e3, e4⟩ | ⟨hk, e1, e2, e3, e4, e5, e6⟩
  · subst e1 e2 e3
    exact .inl ⟨k, hk, _, h1 hk, rfl⟩
  · subst hk e1 e2 e3 e4 e5
    obtain ⟨a, b⟩ := h2 rfl
    exact .inr (.inl ⟨i, a, b, rfl⟩)
  · subst hk e1 e2 e3 e4
    exact .inr (.inr (.inl ⟨n, d, h3 rfl, rfl⟩))
  · subst e1 e2 e3 e4 e5 e6
    exact .inr (.inr (.inr ⟨k, hk, rfl⟩))
theorem rordV_is : Reads ordT (fun a => akchk a = 0) ak0 rordV := by
  refine ⟨fun s h => ?_, fun s h => ?_, fun a h => ?_⟩
  · rcases rordV_form s with e | ⟨a, e⟩
    · rw [e] at h; cases h
    · rw [e] at h ⊢; exact backA_ok h
  · rcases rordV_form s with e | ⟨a, e⟩
    · exact e
    · rw [e] at h ⊢; exact backA_no h
  · rcases ord_cases h with ⟨k, hk, p, hp, rfl⟩ | ⟨i, h1, h2, rfl⟩ | ⟨n, d, hd, rfl⟩ | ⟨k, hk, rfl⟩
    · have hs : spl 32 (ordT ⟨k, p, 0, 0, 0⟩) = [wordK k, itoa p.id, itoa p.a, itoa p.b] := by
        show spl 32 (if k = 1 ∨ k = 3 then _ else _) = _
        rw [if_pos hk, spl_at _ word_no, spl_point]
      have hkw : kindW (wordK k) = k := kind_word (by omega)
      unfold rordV
      rw [hs]
      show rvK _ (kindW (wordK k)) [itoa p.id, itoa p.a, itoa p.b] = _
      rw [hkw]
      unfold rvK
      rw [if_pos hk, rdPt_of (fun n h => whole_itoa h) hp]
      exact backA_of h rfl
    · have hs : spl 32 (ordT ⟨2, ⟨0, 0, 0⟩, i, 0, 0⟩) = [wordK 2, itoa i] := by
        show spl 32 (wordK 2 ++ 32 :: itoa i) = _
        rw [spl_at _ word_no, spl_no (itoa_no32 _)]
      have hkw : kindW (wordK 2) = 2 := rfl
      unfold rordV
      rw [hs]
      show rvK _ 2 [itoa i] = _
      unfold rvK
      rw [if_neg (by decide), if_pos rfl, show joinS [itoa i] = itoa i from rfl, whole_itoa ⟨by omega, by omega⟩, if_pos rfl]
      exact backA_of h rfl
    · obtain ⟨c1, c2, c3⟩ := askd_fit hd
      have hs : spl 32 (ordT ⟨4, ⟨0, 0, 0⟩, 0, n, d⟩) = [wordK 4, wrtV n d] := by
        show spl 32 (wordK 4 ++ 32 :: wrtV n d) = _
        rw [spl_at _ word_no, spl_no (wrt_no32 _ _)]
      have hkw : kindW (wordK 4) = 4 := rfl
      unfold rordV
      rw [hs]
      show rvK _ 4 [wrtV n d] = _
      unfold rvK
      rw [if_neg (by decide), if_neg (by decide), if_pos rfl, show joinS [wrtV n d] = wrtV n d from rfl, readV_is.of n d c1 c2 c3, if_pos rfl]
      exact backA_of h rfl
    · have hs : spl 32 (ordT ⟨k, ⟨0, 0, 0⟩, 0, 0, 0⟩) = [wordK k] := by
        show spl 32 (if k = 1 ∨ k = 3 then _ else if k = 2 then _ else if k = 4 then _ else _) = _
        rw [if_neg (by omega), if_neg (by omega), if_neg (by omega), spl_no word_no]
      have hkw : kindW (wordK k) = k := kind_word (by omega)
      unfold rordV
      rw [hs]
      show rvK _ (kindW (wordK k)) [] = _
      rw [hkw]
      unfold rvK
      rw [if_neg (by omega), if_neg (by omega), if_neg (by omega)]
      exact backA_of h rfl
end Go.Proofs.YtgdpogdgpfjnoaaDoor

namespace Go.Proofs.YtgdpogdgpfjnoaaDoor
open Go.RowKit Go.Sort Sx Go.Lib
def wNow : Str := [110, 111, 119]
def wPoint : Str := [112, 111, 105, 110, 116]
def nowB (m : Md) : Str := wNow ++ 32 :: wrtV m.n m.d
def linB (p : Pt) : Str := wPoint ++ 32 :: pointS p
def endL (l : List Str) : Str := l.flatMap fun x => x ++ [10]
def textT (m : Md) : Str := endL (nowB m :: m.l.map linB)
def textSV (m : Md) : Str × Int := if mchk m = 0 then (textT m, 0) else ([], 8)
abbrev mdZ : Md := ⟨0, 0, []⟩
def lns : Str → List Str
  | [] => []
  | b :: l => if b = 10 then [10] :: lns l else match lns l with | [] => [[b]] | h :: t => (b :: h) :: t
def trimN (s : Str) : Str := if s.getLast? = some 10 then s.dropLast else s
def prsL : Md → List Str → Option Md
  | m, [] => some m
  | m, x :: r =>
    let w := spl 32 (trimN x)
    if w.headD [] = wNow ∧ w.length = 2 then (if (readV (w.getD 1 [])).2 = 0 then prsL ⟨(readV (w.getD 1 [])).1.1, (readV (w.getD 1 [])).1.2, m.l⟩ r else none)
    else match rdPt wholeV w.tail with | some p => prsL ⟨m.n, m.d, m.l ++ [p]⟩ r | none => none
def backM (s : Str) (m : Option Md) : Md × Int := match m with | some m => if mchk m = 0 ∧ textT m = s then (m, 0) else (mdZ, 12) | none => (mdZ, 12)
def prsV (s : Str) : Md × Int := backM s (prsL mdZ (lns s))
def parseV (s : Str) : Md × Int := if 2500 < s.length then (mdZ, 4) else prsV s
theorem backM_ok {s : Str} {m : Option Md} (h : (backM s m).2 = 0) : mchk (backM s m).1 = 0 ∧ textT (backM s m).1 = s := by
  unfold backM at h ⊢
  cases m with
  | none => cases h
  | some m =>
    dsimp only at h ⊢
    split at h
    · rename_i c; rw [if_pos c]; exact c
    · cases h
theorem backM_no {s : Str} {m : Option Md} (h : (backM s m).2 ≠ 0) : backM s m = (mdZ, 12) := by
  unfold backM at h ⊢
  cases m with
  | none => rfl
  | some m =>
    dsimp only at h ⊢
    split at h
    · exact absurd rfl h
    · rename_i c; rw [if_neg c]
theorem backM_of {s : Str} {m : Md} (h : mchk m = 0) (e : textT m = s) : backM s (some m) = (m, 0) := by
  unfold backM; dsimp only; rw [if_pos ⟨h, e⟩]
theorem lns_at : ∀ {a : Str} (r : Str), (10 : UInt8) ∉ a → lns (a ++ 10 :: r) = (a ++ [10]) :: lns r
  | [], r, _ => by rw [List.nil_append, lns, if_pos rfl]; rfl
  | b :: a, r, h => by
    rw [List.cons_append, lns, if_neg (fun e => h (by rw [e]; exact List.mem_cons_self ..)), lns_at r (fun k => h (List.mem_cons_of_mem _ k))]; rfl
theorem lns_end : ∀ {l : List Str}, (∀ x ∈ l, (10 : UInt8) ∉ x) → lns (endL l) = l.map fun x => x ++ [10]
  | [], _ => rfl
  | x :: l, h => by
    have e : endL (x :: l) = x ++ 10 :: endL l := by unfold endL; rw [List.flatMap_cons, List.append_assoc]; rfl
    rw [e, lns_at _ (h x (List.mem_cons_self ..)), lns_end (fun y hy => h y (List.mem_cons_of_mem _ hy))]; rfl
theorem spl_end : ∀ {l : List Str}, (∀ x ∈ l, (10 : UInt8) ∉ x) → spl 10 (endL l) = l ++ [[]]
  | [], _ => rfl
  | x :: l, h => by
    have e : endL (x :: l) = x ++ 10 :: endL l := by unfold endL; rw [List.flatMap_cons, List.append_assoc]; rfl
    rw [e, spl_at _ (h x (List.mem_cons_self ..)), spl_end (fun y hy => h y (List.mem_cons_of_mem _ hy))]; rfl
theorem trimN_end (x : Str) : trimN (x ++ [10]) = x := by
  unfold trimN
  rw [if_pos (by simp)]; simp
theorem itoa_no10 (n : Int) : (10 : UInt8) ∉ itoa n := itoa_no (by decide) (by decide)
theorem nowB_no (m : Md) : (10 : UInt8) ∉ nowB m := by
  unfold nowB wrtV
  intro h
  rcases List.mem_append.1 h with h | h
  · exact absurd h (by decide)
  · rcases List.mem_cons.1 h with h | h
    · exact absurd h (by decide)
    · split at h
      · exact itoa_no10 _ h
      · rcases List.mem_append.1 h with h | h
        · exact itoa_no10 _ h
        · rcases List.mem_cons.1 h with h | h
          · exact absurd h (by decide)
          · exact itoa_no10 _ h
theorem linB_no (p : Pt) : (10 : UInt8) ∉ linB p := by
  unfold linB pointS
  intro h
  rcases List.mem_append.1 h with h | h
  · exact absurd h (by decide)
  · rcases List.mem_cons.1 h with h | h
    · exact absurd h (by decide)
    · rcases List.mem_append.1 h with h | h
      · exact itoa_no10 _ h
      · rcases List.mem_cons.1 h with h | h
        · exact absurd h (by decide)
        · rcases List.mem_append.1 h with h | h
          · exact itoa_no10 _ h
          · rcases List.mem_cons.1 h with h | h
            · exact absurd h (by decide)
            · exact itoa_no10 _ h
theorem lines_no (m : Md) : ∀ x ∈ nowB m :: m.l.map linB, (10 : UInt8) ∉ x := fun x hx => by
  rcases List.mem_cons.1 hx with rfl | hx
  · exact nowB_no m
  · obtain ⟨p, _, rfl⟩ := List.mem_map.1 hx
    exact linB_no p
theorem spl_now (m : Md) : spl 32 (nowB m) = [wNow, wrtV m.n m.d] := by
  unfold nowB
  rw [spl_at _ (by decide), spl_no (wrt_no32 _ _)]
theorem spl_lin (p : Pt) : spl 32 (linB p) = [wPoint, itoa p.id, itoa p.a, itoa p.b] := by
  unfold linB
  rw [spl_at _ (by decide), spl_point]
theorem prsL_pts : ∀ (l : List Pt) (m : Md), (∀ p ∈ l, p.chk = 0) → prsL m (l.map fun p => linB p ++ [10]) = some ⟨m.n, m.d, m.l ++ l⟩
  | [], m, _ => by rw [List.map_nil, prsL, List.append_nil]
  | p :: l, m, h => by
    rw [List.map_cons, prsL]
    simp only [trimN_end, spl_lin]
    rw [if_neg (by intro h; exact absurd h.1 (by show ¬ wPoint = wNow; decide))]
    show (match rdPt wholeV [itoa p.id, itoa p.a, itoa p.b] with | some p => _ | none => none) = _
    rw [rdPt_of (fun n h => whole_itoa h) (h p (List.mem_cons_self ..))]
    dsimp only
    rw [prsL_pts l _ fun q hq => h q (List.mem_cons_of_mem _ hq)]
    dsimp only
    rw [List.append_assoc]; rfl
theorem prsV_is : Reads textT (fun m => mchk m = 0) mdZ prsV := by
  refine ⟨fun s h => backM_ok h, fun s h => backM_no h, fun m hm => ?_⟩
  obtain ⟨g1, g2⟩ := mchk_ok hm
  obtain ⟨k1, k2, k3⟩ := fchk_ok g2
  obtain ⟨c1, c2, c3⟩ := askd_fit g1
  have e : prsL mdZ (lns (textT m)) = some m := by
    unfold textT
    rw [lns_end (lines_no m), List.map_cons, prsL]
    simp only [trimN_end, spl_now]
    rw [if_pos ⟨rfl, rfl⟩]
    show (if (readV (wrtV m.n m.d)).2 = 0 then prsL ⟨(readV (wrtV m.n m.d)).1.1, (readV (wrtV m.n m.d)).1.2, []⟩ _ else none) = _
    rw [readV_is.of _ _ c1 c2 c3, if_pos rfl, List.map_map]
    exact prsL_pts m.l ⟨m.n, m.d, []⟩ k2
  show backM (textT m) (prsL mdZ (lns (textT m))) = _
  rw [e]
  exact backM_of hm rfl
theorem dec_len_le {u k : Nat} (hk : 1 ≤ k) (h : u < 10 ^ k) : (decDigits u).length ≤ k := by
  rw [decDigits_length]
  have : ∀ (j u : Nat), u < 10 ^ (j + 1) → nDigits u ≤ j + 1 := by
    intro j
    induction j with
    | zero => intro u hu; rw [nDigits_small (by simpa using hu)]; exact Nat.le_refl _
    | succ j ih2 =>
      intro u hu
      by_cases h10 : u < 10
      · rw [nDigits_small h10]; omega
      · rw [nDigits_big h10]
        have := ih2 (u / 10) (by rw [Nat.pow_succ] at hu; omega)
        omega
  obtain ⟨j, rfl⟩ : ∃ j, k = j + 1 := ⟨k - 1, by omega⟩
  exact this j u h
theorem itoa_len_le {n : Int} {k : Nat} (hk : 1 ≤ k) (h : n.natAbs < 10 ^ k) : (itoa n).length ≤ k + 1 := by
  unfold itoa
  split
  · rw [List.length_cons]; have := dec_len_le hk h; omega
  · have := dec_len_le (u := n.toNat) hk (Nat.lt_of_le_of_lt (by omega) h)
    omega
theorem lin_len {p : Pt} (h : p.chk = 0) : (linB p).length ≤ 30 := by
  obtain ⟨h1, h2, h3, h4, h5, h6⟩ := cpt_ok (i := p.id) (a := p.a) (b := p.b) h
  have l1 := itoa_len_le (n := p.id) (k := 5) (by decide) (by rw [show (10 : Nat) ^ 5 = 100000 by decide]; omega)
  have e7 : (10 : Nat) ^ 7 = 10000000 := by decide
  have l2 := itoa_len_le (n := p.a) (k := 7) (by decide) (by omega)
  have l3 := itoa_len_le (n := p.b) (k := 7) (by decide) (by omega)
  unfold linB pointS wPoint
  simp only [List.length_append, List.length_cons, List.length_nil]
  omega
theorem wrt_len {n d : Int} (h : askd n d = 0) : (wrtV n d).length ≤ 17 := by
  obtain ⟨h1, h2, h3, h4, h5⟩ := askd_ok h
  have e10 : (10 : Nat) ^ 10 = 10000000000 := by decide
  have e4 : (10 : Nat) ^ 4 = 10000 := by decide
  have l1 := itoa_len_le (n := n) (k := 10) (by decide) (by omega)
  have l2 := itoa_len_le (n := d) (k := 4) (by decide) (by omega)
  unfold wrtV
  split
  · omega
  · simp only [List.length_append, List.length_cons]; omega
theorem endL_len : ∀ (l : List Str), (∀ x ∈ l, x.length ≤ 30) → (endL l).length ≤ l.length * 31
  | [], _ => Nat.le_refl _
  | x :: l, h => by
    have e : endL (x :: l) = x ++ 10 :: endL l := by unfold endL; rw [List.flatMap_cons, List.append_assoc]; rfl
    have h1 := h x (List.mem_cons_self ..)
    have h2 := endL_len l fun y hy => h y (List.mem_cons_of_mem _ hy)
    rw [e]
    simp only [List.length_append, List.length_cons]
    omega
theorem text_len {m : Md} (hm : mchk m = 0) : (textT m).length ≤ 2100 := by
  obtain ⟨g1, g2⟩ := mchk_ok hm
  obtain ⟨k1, k2, k3⟩ := fchk_ok g2
  have hw := wrt_len g1
  have h := endL_len (nowB m :: m.l.map linB) fun x hx => by
    rcases List.mem_cons.1 hx with rfl | hx
    · unfold nowB wNow; simp only [List.length_append, List.length_cons, List.length_nil]; omega
    · obtain ⟨p, hp, rfl⟩ := List.mem_map.1 hx
      exact lin_len (k2 p hp)
  rw [List.length_cons, List.length_map] at h
  unfold textT
  omega
end Go.Proofs.YtgdpogdgpfjnoaaDoor

namespace Go.Proofs.YtgdpogdgpfjnoaaDoor
open Go Go.RowKit Go.Sort Sx
open Go.Lib hiding intOf
theorem rep_iv {w : World} {M : Nat → Prop} {n : Int} {v : Value} (h : Rep w M (i64 n) v) : v = .int .i64 n := by cases h; rfl
theorem rep_pts {w : World} {M : Nat → Prop} {l : List Pt} {v : Value} (h : Rep w M (pts l) v) : ∃ a c, v = .slice a l.length c ∧ ∀ i (hi : i < l.length), ∃ b off, a = some ⟨b, off, none⟩ ∧ b < w.heap.size ∧ w.cell? ⟨b, off + i * 3, none⟩ = some (.int .i64 l[i].id) ∧ w.cell? ⟨b, off + i * 3 + 1, none⟩ = some (.int .i64 l[i].a) ∧ w.cell? ⟨b, off + i * 3 + 2, none⟩ = some (.int .i64 l[i].b) := by
  obtain ⟨L, hL⟩ : ∃ L : List (List Sx.D), L = l.map Pt.c := ⟨_, rfl⟩
  have hll : L.length = l.length := by rw [hL, List.length_map]
  have h' : Rep w M (.list 3 L) v := by rw [hL]; exact h
  clear h
  cases h' with
  | nil k x c hm hx =>
    refine ⟨x, c, by rw [← hll]; rfl, fun i hi => ?_⟩
    rw [← hll] at hi; exact absurd hi (Nat.not_lt_zero _)
  | @list b off cap k L vs hc hm hMb hb hk hv hr =>
    refine ⟨_, cap, by rw [hll], fun i hi => ⟨b, off, rfl, hb, ?_⟩⟩
    have hi' : i < L.length := by omega
    have e1 : L[i] = l[i].c := by subst hL; rw [List.getElem_map]
    have key : ∀ (j : Nat) (x : Int), j < 3 → (l[i].c)[j]? = some (i64 x) → w.cell? ⟨b, off + i * 3 + j, none⟩ = some (.int .i64 x) := fun j x hj hx => by
      have h1 := hv i j hi' hj
      have hj' : j < L[i].length := by rw [e1]; exact hj
      have h2 := hr i j hi' hj'
      have e2 : L[i][j] = i64 x := by
        have : L[i][j]? = some (i64 x) := by rw [e1]; exact hx
        rw [List.getElem?_eq_getElem hj'] at this; injection this
      rw [e2] at h2
      have h3 : vs i j = .int .i64 x := rep_iv h2
      rw [h3] at h1; exact h1
    exact ⟨key 0 _ (by decide) rfl, key 1 _ (by decide) rfl, key 2 _ (by decide) rfl⟩
theorem fn_call {f : Nat} {args : List DC} {r : DV} {v : Value} (hcall : ∀ (vs : Array Value) (w : World), (callFunc f vs).run Tryd.prog w = .ok (.enter f vs) w) (hr : dv? r = some v) (h : FnOK Tryd.prog f args r) {w : World} (hg : Gd w) {vs : List Value} (hvs : DCsR w (fun _ => False) args vs) :
    Calls Tryd.prog f vs.toArray w fun e w' => e = .returned v ∧ Below w.heap.size w w' := by
  rcases h w (fun _ => False) vs ⟨fun _ h => h.elim, hg, fun _ h => h.elim⟩ hvs with ⟨g, hg, hc⟩ | ⟨u, hg, _⟩
  · have : g = f := by
      rw [hcall] at hg
      injection hg with h1
      injection h1 with h1
      exact h1.symm
    subst this
    refine hc.mono ?_
    rintro e w' ⟨u, rfl, hu, hb⟩
    rw [dv_rel hr] at hu
    rw [hu.1]
    exact ⟨rfl, hb⟩
  · rw [hcall] at hg
    cases hg
theorem gd_below {w w' : World} (hb : Below w.heap.size w w') (h : Gd w) : Gd w' := gd_keep hb.size (fun b hb' => hb.block b (Nat.lt_of_lt_of_le hb' (gd_size h))) h
theorem text_bad (m : Md) (hm : mchk m ≠ 0) : FnOK Tryd.prog 10 [m.dc] (retS ([], 8)) := by
  have H := oCheck_fn m
  rw [(mchk_08 m).resolve_left hm] at H
  refine fn_ok (by kernel_rfl) ty_ok Tryd.func10 rfl (fun _ _ => Tryd.call10 _ _) rfl ?_
  intro hw
  clear hw
  repeat' ((conv => whnf); first | (with_reducible first | refine br_t ?_ | refine br_f ?_ | refine za ?_ | refine zg ?_) | refine zsl ?_ | refine zsg ?_ | refine zss ?_ | refine zs1 ?_ | refine zse ?_ | refine zsn ?_ | refine zsc ?_ | (with_reducible first | refine zpa ?_ | refine zqa ?_) | refine zp ?_ | refine zq ?_ | (with_reducible first | refine bc (fun h => ?_) (fun h => ?_) | refine zt ?_ | refine zf ?_ | refine br_i (fun h => ?_) (fun h => ?_)) | refine zg ?_ | refine zi ?_ | refine zb ?_)
  all_goals conv => whnf
  all_goals rfl
def txK (m : Md) (k : Nat) : Str := nowB m ++ 10 :: (m.l.take k).flatMap fun p => linB p ++ [10]
theorem txK_all (m : Md) : txK m m.l.length = textT m := by
  unfold txK textT endL
  rw [List.take_length, List.flatMap_cons, List.flatMap_map, List.append_assoc]; rfl
theorem txK_succ (m : Md) {k : Nat} (h : k < m.l.length) : txK m (k + 1) = txK m k ++ (linB m.l[k] ++ [10]) := by
  unfold txK
  rw [List.take_succ_eq_append_getElem h, List.flatMap_append]
  simp
theorem txK_le (m : Md) (k : Nat) : (txK m k).length ≤ (textT m).length := by
  rw [← txK_all]
  unfold txK
  conv => rhs; rw [List.take_length, ← List.take_append_drop k m.l, List.flatMap_append]
  simp only [List.length_append, List.length_cons]
  omega
attribute [local go_sem] str_append
set_option maxHeartbeats 1000000 in
set_option maxRecDepth 100000 in
theorem text_any (m : Md) (hm : mchk m = 0) (w : World) (hg : Gd w) (sl : Value) (hsl : Rep w (fun _ => False) (pts m.l) sl) : Calls Tryd.prog 10 #[.agg #[.int .i64 m.n, .int .i64 m.d, sl]] w fun e w' => e = .returned (.tuple #[bstr (textT m), .int .i64 0]) ∧ Below w.heap.size w w' := by
  obtain ⟨g1, g2⟩ := mchk_ok hm
  obtain ⟨k1, k2, k3⟩ := fchk_ok g2
  obtain ⟨c1, c2, c3⟩ := askd_fit g1
  have lw := wrtV_le (fit_in c2) (fit_in c3)
  have Hn := cNumber_fn m.n m.d
  rw [numV_ok c1] at Hn
  have Hc := oCheck_fn m
  rw [hm] at Hc
  obtain ⟨a, c, rfl, hpt⟩ := rep_pts hsl
  have mv : ∀ w', Below w.heap.size w w' → DCsR w' (fun _ => False) [m.dc] [.agg #[.int .i64 m.n, .int .i64 m.d, .slice a m.l.length c]] := fun w' hb => by
    refine ⟨⟨[.int .i64 m.n, .int .i64 m.d, .slice a m.l.length c], rfl, .v _ rfl ⟨?_, ?_⟩, .v _ rfl ⟨?_, ?_⟩, hsl.mono (Holds.of_below hb) (fun _ _ h => h), trivial⟩, trivial⟩
    all_goals first | exact (fit_in c2).1 | exact (fit_in c2).2 | exact (fit_in c3).1 | exact (fit_in c3).2
  obtain ⟨wb, hwb⟩ : ∃ wb, wb = w.alloc (.cells #[.int .i64 m.n, .int .i64 m.d, .slice a m.l.length c] 28) := ⟨_, rfl⟩
  have bb : Below w.heap.size w wb := by rw [hwb]; exact (Below.refl _ _).alloc (Nat.le_refl _) _
  have sb : wb.heap.size = w.heap.size + 1 := by rw [hwb]; simp
  have x0 : wb.cell? ⟨w.heap.size, 0, none⟩ = some (.int .i64 m.n) := by rw [hwb, World.cell?_alloc_new]; rfl
  have x1 : wb.cell? ⟨w.heap.size, 1, none⟩ = some (.int .i64 m.d) := by rw [hwb, World.cell?_alloc_new]; rfl
  have x2 : wb.cell? ⟨w.heap.size, 2, none⟩ = some (.slice a m.l.length c) := by rw [hwb, World.cell?_alloc_new]; rfl
  have keep : ∀ {w1 w2 : World}, Below (w.heap.size + 1) w1 w2 → ∀ o, w2.cell? ⟨w.heap.size, o, none⟩ = w1.cell? ⟨w.heap.size, o, none⟩ := fun hb o => World.cell?_of_block (hb.block _ (Nat.lt_succ_self _))
  go_enter Tryd.func10, Tryd.ntmps10
  go_wp2_with (go_at_call 23; rw [← hwb]; refine (fn_call (fun _ _ => Tryd.call23 _ _) rfl Hc (gd_below bb hg) (mv _ bb)).mono ?_; rintro e w1 ⟨rfl, hb1⟩; rw [sb] at hb1; have y0 := (keep hb1 0).trans x0; have y1 := (keep hb1 1).trans x1; have y2 := (keep hb1 2).trans x2; have b1 : Below w.heap.size w w1 := bb.trans (hb1.mono (Nat.le_succ _)); have s1 := hb1.size)
  go_wp2_with (go_at_call 20; refine (fn_call (vs := [.agg #[.int .i64 m.n, .int .i64 m.d]]) (fun _ _ => Tryd.call20 _ _) rfl Hn (gd_below b1 hg) ⟨⟨[.int .i64 m.n, .int .i64 m.d], rfl, .v _ rfl (fit_in c2), .v _ rfl (fit_in c3), trivial⟩, trivial⟩).mono ?_; rintro e w2 ⟨rfl, hb2⟩; have z2 := (keep (hb2.mono (by omega)) 2).trans y2; have b2 : Below w.heap.size w w2 := b1.trans (hb2.mono b1.size); have s2 := hb2.size)
  refine (write_str w2.heap.size w2.heap.size [] (110 :: 111 :: 119 :: 32 :: (wrtV m.n m.d ++ [10])) _ (bld_new w2 69 5) (by simp only [List.length_append, List.length_cons, List.length_nil]; omega) (by simp)).mono ?_
  rintro e w3 ⟨rfl, h3, hb3⟩
  have b3 : Below w2.heap.size w2 w3 := ((Below.refl _ _).alloc (Nat.le_refl _) _).trans hb3
  have e3 : w3.cell? ⟨w.heap.size, 2, none⟩ = some (.slice a m.l.length c) := (keep (b3.mono (by omega)) 2).trans z2
  go_wp2_with (fail)
  go_loopw [32] (fun i wr => ∃ k : Nat, k ≤ m.l.length ∧ i = .int .i64 k ∧ Lib.IsBuilder 69 5 w2.heap.size w2.heap.size (Lib.byteCells (txK m k)) wr ∧ Below w2.heap.size w2 wr) (fun i _ => m.l.length - (intOf i).toNat)
  case atStart => exact ⟨0, Nat.zero_le _, rfl, h3, b3⟩
  case round =>
    obtain ⟨k, hk, rfl, hbl, hbw⟩ := hrel
    have bw : Below w.heap.size w wr := b2.trans (hbw.mono b2.size)
    have swr := hbw.size
    have swr0 : w.heap.size ≤ wr.heap.size := by omega
    have hT := txK_le m k
    have hT2 := text_len hm
    rcases Nat.lt_or_ge k m.l.length with hlt | hge
    · obtain ⟨b0, off, ha, hb0, p0, p1, p2⟩ := hpt k hlt
      subst ha
      have qq : ∀ o, wr.cell? ⟨b0, o, none⟩ = w.cell? ⟨b0, o, none⟩ := fun o => World.cell?_of_block (bw.block b0 hb0)
      have q0 := (qq _).trans p0
      have q1 : wr.cell? ⟨b0, off + (k * 3 + 1), none⟩ = some (.int .i64 m.l[k].a) := (qq _).trans p1
      have q2 : wr.cell? ⟨b0, off + (k * 3 + 2), none⟩ = some (.int .i64 m.l[k].b) := (qq _).trans p2
      clear qq p0 p1 p2
      have hp := k2 _ (List.getElem_mem hlt)
      have hs := txK_succ m hlt
      obtain ⟨f1, f2, f3⟩ := pt_fit hp
      generalize m.l[k] = p at *
      clear hpt
      have li := itoa_le (fit_in f1)
      have la := itoa_le (fit_in f2)
      have lb := itoa_le (fit_in f3)
      obtain ⟨S, hS⟩ : ∃ S, S = itoa p.id ++ 32 :: (itoa p.a ++ 32 :: itoa p.b) := ⟨_, rfl⟩
      have lS : S.length ≤ 65 := by rw [hS]; simp only [List.length_append, List.length_cons]; omega
      have Hp := cpoint_fn p.id p.a p.b
      rw [← hS] at Hp
      have hlS : linB p ++ [10] = 112 :: 111 :: 105 :: 110 :: 116 :: 32 :: (S ++ [10]) := by rw [hS]; show linB p ++ [10] = _; unfold linB pointS wPoint; simp
      clear hS
      obtain ⟨wp, hwp⟩ : ∃ wp, wp = wr.alloc (.cells #[.int .i64 p.id, .int .i64 p.a, .int .i64 p.b] 46) := ⟨_, rfl⟩
      have bp : Below wr.heap.size wr wp := by rw [hwp]; exact (Below.refl _ _).alloc (Nat.le_refl _) _
      go_wp2_with (go_at_call 33; rw [← hwp]; refine (fn_call (vs := [.agg #[.int .i64 p.id, .int .i64 p.a, .int .i64 p.b]]) (fun _ _ => Tryd.call33 _ _) rfl Hp (gd_below (bw.trans (bp.mono swr0)) hg) ⟨⟨[.int .i64 p.id, .int .i64 p.a, .int .i64 p.b], rfl, .v _ rfl (fit_in f1), .v _ rfl (fit_in f2), .v _ rfl (fit_in f3), trivial⟩, trivial⟩).mono ?_; rintro e w4 ⟨rfl, hb4⟩)
      have b4 : Below wr.heap.size wr w4 := bp.trans (hb4.mono bp.size)
      refine (write_str w2.heap.size w2.heap.size (txK m k) (112 :: 111 :: 105 :: 110 :: 116 :: 32 :: (S ++ [10])) w4 (bld_below hbl b4) (by simp only [List.length_append, List.length_cons, List.length_nil]; omega) (by have := b4.size; omega)).mono ?_
      rintro e w5 ⟨rfl, h5, hb5⟩
      go_wp2_with (fail)
      go_roundw
      case rel => exact ⟨k + 1, by omega, by go_num, by rw [hs, hlS]; exact h5, (hbw.trans (b4.mono swr)).trans hb5⟩
      case measure => simp [intOf]; omega
    · obtain rfl : k = m.l.length := by omega
      have hne : txK m m.l.length ≠ [] := by unfold txK nowB wNow; simp
      go_wp2_with (go_at_call 34; refine (Tryd.Builder_String w2.heap.size w2.heap.size (txK m m.l.length) wr hbl hne).mono ?_; rintro e w5 ⟨rfl, hb5⟩)
      go_ret2
      rw [txK_all]
      exact ⟨rfl, bw.trans (hb5.mono b2.size)⟩
theorem cText_fn (m : Md) : FnOK Tryd.prog 10 [m.dc] (retS (textSV m)) := by
  unfold textSV
  by_cases hm : mchk m = 0
  · rw [if_pos hm]
    refine fun w M vs hM hvs => .inl ⟨10, Tryd.call10 _ _, ?_⟩
    match vs, hvs with
    | [v], hvs =>
      obtain ⟨⟨us, rfl, hu⟩, _⟩ := hvs
      match us, hu with
      | [x, y, z], hu =>
        obtain ⟨hx, hy, hz, _⟩ := hu
        have hx := rep_iv hx
        have hy := rep_iv hy
        subst hx hy
        exact (text_any m hm w hM.gd z (hz.mono (Holds.refl _ _) (fun _ _ h => h.elim))).mono fun e w' ⟨he, hb⟩ => ⟨_, he, ⟨_, rfl, .v _ rfl trivial, .v (.int .i64 0) rfl ⟨by decide, by decide⟩, trivial⟩, hb⟩
      | [], hu => exact hu.elim
      | [_], hu => exact hu.2.elim
      | [_, _], hu => exact hu.2.2.elim
      | _ :: _ :: _ :: _ :: _, hu => exact hu.2.2.2.elim
    | [], hvs => exact hvs.elim
    | _ :: _ :: _, hvs => exact hvs.2.elim
  · rw [if_neg hm]
    exact text_bad m hm
end Go.Proofs.YtgdpogdgpfjnoaaDoor

namespace Go.Proofs.YtgdpogdgpfjnoaaDoor
open Go Go.RowKit Go.Sort Sx
open Go.Lib hiding intOf
abbrev retPo (x : Option (Int × Int × Int)) : DV := match x with | some p => .tup [pt p.1 p.2.1 p.2.2, .one (bol true)] | none => .tup [pt 0 0 0, .one (bol false)]
def rd3 (wh : Str → Int × Bool) : List Str → Option (Int × Int × Int)
  | [a, b, c] => if (wh a).2 = true ∧ (wh b).2 = true ∧ (wh c).2 = true then some ((wh a).1, (wh b).1, (wh c).1) else none
  | _ => none
theorem rd3_len {wh : Str → Int × Bool} : ∀ {l : List Str}, l.length ≠ 3 → rd3 wh l = none
  | [], _ => rfl
  | [_], _ => rfl
  | [_, _], _ => rfl
  | [_, _, _], h => absurd rfl h
  | _ :: _ :: _ :: _ :: _, _ => rfl
theorem creadPoint_fn (l : List Str) (hl : l.length ≤ 1000000) (hs : ∀ x ∈ l, x.length ≤ 1000000) : FnOK Tryd.prog 39 [.one (strs l)] (retPo (rd3 wholeV l)) := by
  by_cases h3 : l.length = 3
  · match l, h3, hs with
    | [a, b, c], _, hs =>
      have Ha := whole_fn a (hs a (by simp))
      have Hb := whole_fn b (hs b (by simp))
      have Hc := whole_fn c (hs c (by simp))
      unfold rd3
      dsimp only
      generalize wholeV a = p at *
      generalize wholeV b = q at *
      generalize wholeV c = r at *
      obtain ⟨pn, pb⟩ := p
      obtain ⟨qn, qb⟩ := q
      obtain ⟨rn, rb⟩ := r
      simp only [retWh] at Ha Hb Hc
      dsimp only
      have he : ([a, b, c].map fun s => [str s]).length = 3 := rfl
      have g0 : ([a, b, c].map fun s => [str s])[(0 : Int).toNat]? = some [str a] := rfl
      have w1 : IntKind.i64.wrap (0 + 1) = 1 := by decide
      have w2 : IntKind.i64.wrap (IntKind.i64.wrap (0 + 1) + 1) = 2 := by decide
      have w3 : IntKind.i64.wrap (IntKind.i64.wrap (IntKind.i64.wrap (0 + 1) + 1) + 1) = 3 := by decide
      have g1 : ([a, b, c].map fun s => [str s])[(IntKind.i64.wrap (0 + 1)).toNat]? = some [str b] := by rw [w1]; rfl
      have g2 : ([a, b, c].map fun s => [str s])[(IntKind.i64.wrap (IntKind.i64.wrap (0 + 1) + 1)).toNat]? = some [str c] := by rw [w2]; rfl
      refine fn_ok (by kernel_rfl) ty_ok Tryd.func39 rfl (fun _ _ => Tryd.call39 _ _) rfl ?_
      intro hw
      clear hw
      repeat' ((conv => whnf); first | (with_reducible first | refine br_t ?_ | refine br_f ?_ | refine za ?_ | refine zg ?_) | refine zsl ?_ | refine zsg ?_ | refine zss ?_ | refine zs1 ?_ | refine zse ?_ | refine zsn ?_ | refine zsc ?_ | (with_reducible first | refine zpa ?_ | refine zqa ?_) | refine zp ?_ | refine zq ?_ | (with_reducible first | refine bc (fun h => ?_) (fun h => ?_) | refine zt ?_ | refine zf ?_ | refine br_i (fun h => ?_) (fun h => ?_)) | refine zg ?_ | refine zi ?_ | refine zb ?_)
      refine loop_rounds 4 ?_
      refine rounds_step [2, 4] (by kernel_rfl) ty_ok ?_
      cases pb
      · rw [if_neg (by simp)]
        repeat' ((conv => whnf); first | (with_reducible first | refine br_t ?_ | refine br_f ?_ | refine za ?_ | refine zg ?_) | refine zsl ?_ | refine zsg ?_ | refine zss ?_ | refine zs1 ?_ | refine zse ?_ | refine zsn ?_ | refine zsc ?_ | (with_reducible first | refine zpa ?_ | refine zqa ?_) | refine zp ?_ | refine zq ?_ | (with_reducible first | refine bc (fun h => ?_) (fun h => ?_) | refine zt ?_ | refine zf ?_ | refine br_i (fun h => ?_) (fun h => ?_)) | refine zg ?_ | refine zi ?_ | refine zb ?_)
        all_goals conv => whnf
        all_goals rfl
      repeat' ((conv => whnf); first | (with_reducible first | refine br_t ?_ | refine br_f ?_ | refine za ?_ | refine zg ?_) | refine zsl ?_ | refine zsg ?_ | refine zss ?_ | refine zs1 ?_ | refine zse ?_ | refine zsn ?_ | refine zsc ?_ | (with_reducible first | refine zpa ?_ | refine zqa ?_) | refine zp ?_ | refine zq ?_ | (with_reducible first | refine bc (fun h => ?_) (fun h => ?_) | refine zt ?_ | refine zf ?_ | refine br_i (fun h => ?_) (fun h => ?_)) | refine zg ?_ | refine zi ?_ | refine zb ?_)
      refine rounds_step [2, 4] (by kernel_rfl) ty_ok ?_
      cases qb
      · rw [if_neg (by simp)]
        repeat' ((conv => whnf); first | (with_reducible first | refine br_t ?_ | refine br_f ?_ | refine za ?_ | refine zg ?_) | refine zsl ?_ | refine zsg ?_ | refine zss ?_ | refine zs1 ?_ | refine zse ?_ | refine zsn ?_ | refine zsc ?_ | (with_reducible first | refine zpa ?_ | refine zqa ?_) | refine zp ?_ | refine zq ?_ | (with_reducible first | refine bc (fun h => ?_) (fun h => ?_) | refine zt ?_ | refine zf ?_ | refine br_i (fun h => ?_) (fun h => ?_)) | refine zg ?_ | refine zi ?_ | refine zb ?_)
        all_goals conv => whnf
        all_goals rfl
      repeat' ((conv => whnf); first | (with_reducible first | refine br_t ?_ | refine br_f ?_ | refine za ?_ | refine zg ?_) | refine zsl ?_ | refine zsg ?_ | refine zss ?_ | refine zs1 ?_ | refine zse ?_ | refine zsn ?_ | refine zsc ?_ | (with_reducible first | refine zpa ?_ | refine zqa ?_) | refine zp ?_ | refine zq ?_ | (with_reducible first | refine bc (fun h => ?_) (fun h => ?_) | refine zt ?_ | refine zf ?_ | refine br_i (fun h => ?_) (fun h => ?_)) | refine zg ?_ | refine zi ?_ | refine zb ?_)
      refine rounds_step [2, 4] (by kernel_rfl) ty_ok ?_
      cases rb
      · rw [if_neg (by simp)]
        repeat' ((conv => whnf); first | (with_reducible first | refine br_t ?_ | refine br_f ?_ | refine za ?_ | refine zg ?_) | refine zsl ?_ | refine zsg ?_ | refine zss ?_ | refine zs1 ?_ | refine zse ?_ | refine zsn ?_ | refine zsc ?_ | (with_reducible first | refine zpa ?_ | refine zqa ?_) | refine zp ?_ | refine zq ?_ | (with_reducible first | refine bc (fun h => ?_) (fun h => ?_) | refine zt ?_ | refine zf ?_ | refine br_i (fun h => ?_) (fun h => ?_)) | refine zg ?_ | refine zi ?_ | refine zb ?_)
        all_goals conv => whnf
        all_goals rfl
      rw [if_pos ⟨rfl, rfl, rfl⟩]
      repeat' ((conv => whnf); first | (with_reducible first | refine br_t ?_ | refine br_f ?_ | refine za ?_ | refine zg ?_) | refine zsl ?_ | refine zsg ?_ | refine zss ?_ | refine zs1 ?_ | refine zse ?_ | refine zsn ?_ | refine zsc ?_ | (with_reducible first | refine zpa ?_ | refine zqa ?_) | refine zp ?_ | refine zq ?_ | (with_reducible first | refine bc (fun h => ?_) (fun h => ?_) | refine zt ?_ | refine zf ?_ | refine br_i (fun h => ?_) (fun h => ?_)) | refine zg ?_ | refine zi ?_ | refine zb ?_)
      refine rounds_step [2, 4] (by kernel_rfl) ty_ok ?_
      repeat' ((conv => whnf); first | (with_reducible first | refine br_t ?_ | refine br_f ?_ | refine za ?_ | refine zg ?_) | refine zsl ?_ | refine zsg ?_ | refine zss ?_ | refine zs1 ?_ | refine zse ?_ | refine zsn ?_ | refine zsc ?_ | (with_reducible first | refine zpa ?_ | refine zqa ?_) | refine zp ?_ | refine zq ?_ | (with_reducible first | refine bc (fun h => ?_) (fun h => ?_) | refine zt ?_ | refine zf ?_ | refine br_i (fun h => ?_) (fun h => ?_)) | refine zg ?_ | refine zi ?_ | refine zb ?_)
      all_goals conv => whnf
      all_goals rfl
  · rw [rd3_len h3]
    have e : (l.map fun s => [str s]).length = l.length := List.length_map ..
    refine fn_ok (by kernel_rfl) ty_ok Tryd.func39 rfl (fun _ _ => Tryd.call39 _ _) rfl ?_
    intro hw
    clear hw
    repeat' ((conv => whnf); first | (with_reducible first | refine br_t ?_ | refine br_f ?_ | refine za ?_ | refine zg ?_) | refine zsl ?_ | refine zsg ?_ | refine zss ?_ | refine zs1 ?_ | refine zse ?_ | refine zsn ?_ | refine zsc ?_ | (with_reducible first | refine zpa ?_ | refine zqa ?_) | refine zp ?_ | refine zq ?_ | (with_reducible first | refine bc (fun h => ?_) (fun h => ?_) | refine zt ?_ | refine zf ?_ | refine br_i (fun h => ?_) (fun h => ?_)) | refine zg ?_ | refine zi ?_ | refine zb ?_)
    all_goals conv => whnf
    all_goals rfl
end Go.Proofs.YtgdpogdgpfjnoaaDoor

namespace Go.Proofs.YtgdpogdgpfjnoaaDoor
open Go Go.RowKit Go.Sort Sx
open Go.Lib hiding intOf
end Go.Proofs.YtgdpogdgpfjnoaaDoor

namespace Go.Proofs.YtgdpogdgpfjnoaaDoor
open Go Go.RowKit Go.Sort Sx
open Go.Lib hiding intOf
end Go.Proofs.YtgdpogdgpfjnoaaDoor

namespace Go.Proofs.YtgdpogdgpfjnoaaDoor
open Go Go.RowKit Go.Sort Sx
open Go.Lib hiding intOf
theorem cwords_fn : FnOK Tryd.prog 45 [] (.c (.agg [str [], str wPut, str wTake, str wChange, str wMove, str wLead, str wClose])) := by
  refine fn_ok (by kernel_rfl) ty_ok Tryd.func45 rfl (fun _ _ => Tryd.call45 _ _) rfl ?_
  intro hw
  clear hw
  repeat' ((conv => whnf); first | (with_reducible first | refine br_t ?_ | refine br_f ?_ | refine za ?_ | refine zg ?_) | refine zsl ?_ | refine zsg ?_ | refine zss ?_ | refine zs1 ?_ | refine zse ?_ | refine zsn ?_ | refine zsc ?_ | (with_reducible first | refine zpa ?_ | refine zqa ?_) | refine zp ?_ | refine zq ?_ | (with_reducible first | refine bc (fun h => ?_) (fun h => ?_) | refine zt ?_ | refine zf ?_ | refine br_i (fun h => ?_) (fun h => ?_)) | refine zg ?_ | refine zi ?_ | refine zb ?_)
  all_goals conv => whnf
  all_goals rfl
theorem dcCheck_fn (a : Ak) : FnOK Tryd.prog 26 [a.dc] (ret1 (akchk a)) := by
  obtain ⟨k, ⟨i, x, y⟩, id, n, d⟩ := a
  have H1 := kCheck_fn i x y
  have H2 := asked_fn n d
  have hr := askd_rng n d
  have h08 := cpt_08 i x y
  unfold akchk formV Pt.chk
  dsimp only
  generalize cpt i x y = c at *
  generalize askd n d = e at *
  refine fn_ok (by kernel_rfl) ty_ok Tryd.func26 rfl (fun _ _ => Tryd.call26 _ _) rfl ?_
  intro hw
  clear hw
  repeat' ((conv => whnf); first | (with_reducible first | refine br_t ?_ | refine br_f ?_ | refine za ?_ | refine zg ?_) | refine zp ?_ | refine zq ?_ | (with_reducible first | refine bc (fun h => ?_) (fun h => ?_) | refine zt ?_ | refine zf ?_ | refine br_i (fun h => ?_) (fun h => ?_) | refine xi (pv_bool fun _ => nev48 _ _ _ _ _ _ _ _ _ _ _ _ _ _ _ _ _) ?_) | refine zg ?_ | refine zi ?_ | refine zb ?_)
  all_goals conv => whnf
  all_goals
    clear H1 H2
    refine r_int ?_
    simp only [decide_eq_true_eq, Decidable.imp_iff_not_or, true_and, and_true] at *
    split
    all_goals first | rfl | (exfalso; omega)
theorem r36Check_fn (a : Ak) : FnOK Tryd.prog 27 [a.dc] (ret1 (akchk a)) := by
  obtain ⟨k, ⟨i, x, y⟩, id, n, d⟩ := a
  have H1 := kkCheck_fn i x y
  have H2 := rasked_fn n d
  have H3 := rcheck_fn n d
  have hca : askd n d = 0 → chk n d = 0 := fun h => (askd_ok h).1
  have hc8 := chk_08 n d
  have hr := askd_rng n d
  have h08 := cpt_08 i x y
  unfold akchk formV Pt.chk
  dsimp only
  generalize cpt i x y = c at *
  generalize chk n d = g at *
  generalize askd n d = e at *
  refine fn_ok (by kernel_rfl) ty_ok Tryd.func27 rfl (fun _ _ => Tryd.call27 _ _) rfl ?_
  intro hw
  clear hw
  repeat' ((conv => whnf); first | (with_reducible first | refine br_t ?_ | refine br_f ?_ | refine za ?_ | refine zg ?_) | refine zp ?_ | refine zq ?_ | (with_reducible first | refine bc (fun h => ?_) (fun h => ?_) | refine zt ?_ | refine zf ?_ | refine br_i (fun h => ?_) (fun h => ?_) | refine xi (pv_bool fun _ => nev48 _ _ _ _ _ _ _ _ _ _ _ _ _ _ _ _ _) ?_) | refine zg ?_ | refine zi ?_ | refine zb ?_)
  all_goals conv => whnf
  all_goals
    clear H1 H2 H3
    refine r_int ?_
    simp only [decide_eq_true_eq, Decidable.imp_iff_not_or, true_and, and_true] at *
    split
    all_goals first | rfl | (exfalso; omega)
end Go.Proofs.YtgdpogdgpfjnoaaDoor

namespace Go.Proofs.YtgdpogdgpfjnoaaDoor
open Go Go.RowKit Go.Sort Sx
open Go.Lib hiding intOf
theorem cOrder_fn (a : Ak) : FnOK Tryd.prog 21 [a.dc] (retS (ordSV a)) := by
  have Hc := dcCheck_fn a
  have Hw := cwords_fn
  have q1 : wPut.length = 3 := rfl
  have q2 : wTake.length = 4 := rfl
  have q3 : wChange.length = 6 := rfl
  have q4 : wMove.length = 4 := rfl
  unfold ordSV
  by_cases h : akchk a = 0
  · rw [if_pos h]
    rw [h] at Hc
    rcases ord_cases h with ⟨k, hk, ⟨i, x, y⟩, hp, rfl⟩ | ⟨i, h1, h2, rfl⟩ | ⟨n, d, hd, rfl⟩ | ⟨k, hk, rfl⟩
    · have Hp := cpoint_fn i x y
      obtain ⟨g1, g2, g3⟩ := pt_fit hp
      have g1 : fitI i := g1
      have g2 : fitI x := g2
      have g3 : fitI y := g3
      have l1 := itoa_le (n := i) ⟨by have := g1.1; omega, g1.2⟩
      have l2 := itoa_le (n := x) ⟨by have := g2.1; omega, g2.2⟩
      have l3 := itoa_le (n := y) ⟨by have := g3.1; omega, g3.2⟩
      have hl : (itoa i ++ 32 :: (itoa x ++ 32 :: itoa y)).length ≤ 100 := by simp only [List.length_append, List.length_cons]; omega
      have eS : itoa i ++ 32 :: (itoa x ++ 32 :: itoa y) = pointS ⟨i, x, y⟩ := rfl
      rw [eS] at Hp hl
      clear eS
      obtain ⟨S, hS⟩ : ∃ S, S = pointS ⟨i, x, y⟩ := ⟨_, rfl⟩
      rw [← hS] at Hp hl
      rcases hk with rfl | rfl
      · have e : ordT ⟨1, ⟨i, x, y⟩, 0, 0, 0⟩ = wPut ++ 32 :: S := by rw [hS]; rfl
        rw [e]
        simp only [Ak.dc] at Hc ⊢
        refine fn_ok (by kernel_rfl) ty_ok Tryd.func21 rfl (fun _ _ => Tryd.call21 _ _) rfl ?_
        intro hw
        clear hw
        repeat' ((conv => whnf); first | (with_reducible first | refine br_t ?_ | refine br_f ?_ | refine za ?_ | refine zg ?_) | refine zsl ?_ | refine zsg ?_ | refine zss ?_ | refine zs1 ?_ | refine zse ?_ | refine zsn ?_ | refine zsc ?_ | (with_reducible first | refine zpa ?_ | refine zqa ?_) | refine zp ?_ | refine zq ?_ | (with_reducible first | refine bc (fun h => ?_) (fun h => ?_) | refine zt ?_ | refine zf ?_ | refine br_i (fun h => ?_) (fun h => ?_)) | refine zg ?_ | refine zi ?_ | refine zb ?_)
        all_goals conv => whnf
        all_goals rfl
      · have e : ordT ⟨3, ⟨i, x, y⟩, 0, 0, 0⟩ = wChange ++ 32 :: S := by rw [hS]; rfl
        rw [e]
        simp only [Ak.dc] at Hc ⊢
        refine fn_ok (by kernel_rfl) ty_ok Tryd.func21 rfl (fun _ _ => Tryd.call21 _ _) rfl ?_
        intro hw
        clear hw
        repeat' ((conv => whnf); first | (with_reducible first | refine br_t ?_ | refine br_f ?_ | refine za ?_ | refine zg ?_) | refine zsl ?_ | refine zsg ?_ | refine zss ?_ | refine zs1 ?_ | refine zse ?_ | refine zsn ?_ | refine zsc ?_ | (with_reducible first | refine zpa ?_ | refine zqa ?_) | refine zp ?_ | refine zq ?_ | (with_reducible first | refine bc (fun h => ?_) (fun h => ?_) | refine zt ?_ | refine zf ?_ | refine br_i (fun h => ?_) (fun h => ?_)) | refine zg ?_ | refine zi ?_ | refine zb ?_)
        all_goals conv => whnf
        all_goals rfl
    · have l1 := itoa_le (n := i) ⟨by omega, by omega⟩
      have e : ordT ⟨2, ⟨0, 0, 0⟩, i, 0, 0⟩ = wTake ++ 32 :: itoa i := rfl
      rw [e]
      simp only [Ak.dc] at Hc ⊢
      refine fn_ok (by kernel_rfl) ty_ok Tryd.func21 rfl (fun _ _ => Tryd.call21 _ _) rfl ?_
      intro hw
      clear hw
      repeat' ((conv => whnf); first | (with_reducible first | refine br_t ?_ | refine br_f ?_ | refine za ?_ | refine zg ?_) | refine za ?_ ito_fn | refine zsl ?_ | refine zsg ?_ | refine zss ?_ | refine zs1 ?_ | refine zse ?_ | refine zsn ?_ | refine zsc ?_ | (with_reducible first | refine zpa ?_ | refine zqa ?_) | refine zp ?_ | refine zq ?_ | (with_reducible first | refine bc (fun h => ?_) (fun h => ?_) | refine zt ?_ | refine zf ?_ | refine br_i (fun h => ?_) (fun h => ?_)) | refine zg ?_ | refine zi ?_ | refine zb ?_)
      all_goals conv => whnf
      all_goals rfl
    · obtain ⟨c1, c2, c3⟩ := askd_fit hd
      have l1 := wrtV_le (n := n) (d := d) ⟨by have := c2.1; omega, c2.2⟩ ⟨by have := c3.1; omega, c3.2⟩
      have Hn := cNumber_fn n d
      rw [numV_ok c1] at Hn
      simp only [retS] at Hn
      have e : ordT ⟨4, ⟨0, 0, 0⟩, 0, n, d⟩ = wMove ++ 32 :: wrtV n d := rfl
      rw [e]
      simp only [Ak.dc] at Hc ⊢
      refine fn_ok (by kernel_rfl) ty_ok Tryd.func21 rfl (fun _ _ => Tryd.call21 _ _) rfl ?_
      intro hw
      clear hw
      repeat' ((conv => whnf); first | (with_reducible first | refine br_t ?_ | refine br_f ?_ | refine za ?_ | refine zg ?_) | refine zsl ?_ | refine zsg ?_ | refine zss ?_ | refine zs1 ?_ | refine zse ?_ | refine zsn ?_ | refine zsc ?_ | (with_reducible first | refine zpa ?_ | refine zqa ?_) | refine zp ?_ | refine zq ?_ | (with_reducible first | refine bc (fun h => ?_) (fun h => ?_) | refine zt ?_ | refine zf ?_ | refine br_i (fun h => ?_) (fun h => ?_)) | refine zg ?_ | refine zi ?_ | refine zb ?_)
      all_goals conv => whnf
      all_goals rfl
    · rcases hk with rfl | rfl
      · have e : ordT ⟨5, ⟨0, 0, 0⟩, 0, 0, 0⟩ = wLead := rfl
        rw [e]
        simp only [Ak.dc] at Hc ⊢
        refine fn_ok (by kernel_rfl) ty_ok Tryd.func21 rfl (fun _ _ => Tryd.call21 _ _) rfl ?_
        intro hw
        clear hw
        repeat' ((conv => whnf); first | (with_reducible first | refine br_t ?_ | refine br_f ?_ | refine za ?_ | refine zg ?_) | refine zsl ?_ | refine zsg ?_ | refine zss ?_ | refine zs1 ?_ | refine zse ?_ | refine zsn ?_ | refine zsc ?_ | (with_reducible first | refine zpa ?_ | refine zqa ?_) | refine zp ?_ | refine zq ?_ | (with_reducible first | refine bc (fun h => ?_) (fun h => ?_) | refine zt ?_ | refine zf ?_ | refine br_i (fun h => ?_) (fun h => ?_)) | refine zg ?_ | refine zi ?_ | refine zb ?_)
        all_goals conv => whnf
        all_goals rfl
      · have e : ordT ⟨6, ⟨0, 0, 0⟩, 0, 0, 0⟩ = wClose := rfl
        rw [e]
        simp only [Ak.dc] at Hc ⊢
        refine fn_ok (by kernel_rfl) ty_ok Tryd.func21 rfl (fun _ _ => Tryd.call21 _ _) rfl ?_
        intro hw
        clear hw
        repeat' ((conv => whnf); first | (with_reducible first | refine br_t ?_ | refine br_f ?_ | refine za ?_ | refine zg ?_) | refine zsl ?_ | refine zsg ?_ | refine zss ?_ | refine zs1 ?_ | refine zse ?_ | refine zsn ?_ | refine zsc ?_ | (with_reducible first | refine zpa ?_ | refine zqa ?_) | refine zp ?_ | refine zq ?_ | (with_reducible first | refine bc (fun h => ?_) (fun h => ?_) | refine zt ?_ | refine zf ?_ | refine br_i (fun h => ?_) (fun h => ?_)) | refine zg ?_ | refine zi ?_ | refine zb ?_)
        all_goals conv => whnf
        all_goals rfl
  · rw [if_neg h]
    have h8 : akchk a = 8 := by
      unfold akchk at h ⊢
      split
      · rename_i c; rw [if_pos c] at h; exact absurd rfl h
      · rfl
    rw [h8] at Hc
    refine fn_ok (by kernel_rfl) ty_ok Tryd.func21 rfl (fun _ _ => Tryd.call21 _ _) rfl ?_
    intro hw
    clear hw
    repeat' ((conv => whnf); first | (with_reducible first | refine br_t ?_ | refine br_f ?_ | refine za ?_ | refine zg ?_) | refine zsl ?_ | refine zsg ?_ | refine zss ?_ | refine zs1 ?_ | refine zse ?_ | refine zsn ?_ | refine zsc ?_ | (with_reducible first | refine zpa ?_ | refine zqa ?_) | refine zp ?_ | refine zq ?_ | (with_reducible first | refine bc (fun h => ?_) (fun h => ?_) | refine zt ?_ | refine zf ?_ | refine br_i (fun h => ?_) (fun h => ?_)) | refine zg ?_ | refine zi ?_ | refine zb ?_)
    all_goals conv => whnf
    all_goals rfl
end Go.Proofs.YtgdpogdgpfjnoaaDoor
