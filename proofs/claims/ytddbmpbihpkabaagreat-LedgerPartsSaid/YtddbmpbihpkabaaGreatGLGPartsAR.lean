import Derived.Test.YtddbmpbihpkabaaGreatGLGPartsAQ
import Derived.Test.YtddbmpbihpkabaaGreatGLGPartsAK
set_option linter.all false
namespace Go.Proofs.YtddbmpbihpkabaaGreat
open Go.RowKit Go.Sort Sx
set_option maxRecDepth 2000
theorem div64_fn (hi lo y:Nat) (h:hi<y):FnOK Tryz.prog 90 [.one (u64 hi),.one (u64 lo),.one (u64 y)] (.tup [.one (u64 ((hi*18446744073709551616+lo) / y:Nat)),.one (u64 ((hi*18446744073709551616+lo) % y:Nat))]):=by
 refine fn_of_calls (fun _ _=>Tryz.call90 _ _) rfl rfl (fun h => ?_) (fun h w => ?_)
 all_goals simp only [WDCs,WDC,wd_u64] at h
 ·simp only [WDV,WDCs,WDC,wd_u64,and_true]
  have h1:(hi*18446744073709551616+lo) / y<18446744073709551616:=Nat.div_lt_of_lt_mul (by rw [Nat.mul_comm];have:(hi+1)*18446744073709551616≤y*18446744073709551616:=Nat.mul_le_mul_right _ (by omega);omega)
  have h2:(hi*18446744073709551616+lo) % y<y:=Nat.mod_lt _ (by omega)
  generalize (hi*18446744073709551616+lo) % y=r at *
  generalize (hi*18446744073709551616+lo) / y=q at *
  omega
 ·exact div64_any hi lo y w (by omega) (by omega) (by omega)
theorem mod_hi (m y:Nat) (hy:0<y):(m / 18446744073709551616 % y*18446744073709551616+m % 18446744073709551616) % y=m % y:=by
 conv=>rhs;rw [← Nat.div_add_mod m 18446744073709551616]
 rw [Nat.mul_comm 18446744073709551616,Nat.add_mod,Nat.mul_mod,Nat.mod_mod,← Nat.mul_mod,← Nat.add_mod]
theorem rem64_fn (m y:Nat) (hy:0<y):FnOK Tryz.prog 89 [.one (u64 (m / 18446744073709551616:Nat)),.one (u64 (m % 18446744073709551616:Nat)),.one (u64 y)] (.c (.one (u64 (m % y:Nat)))):=by
 refine fn_ok (by kernel_rfl) ty_ok Tryz.func89 rfl (fun _ _=>Tryz.call89 _ _) rfl ?_
 intro hw
 simp only [WDCs,WDC,wd_u64] at hw
 have HD:=div64_fn (m / 18446744073709551616 % y) (m % 18446744073709551616) y (Nat.mod_lt _ hy)
 rw [mod_hi m y hy] at HD
 have e:((m / 18446744073709551616 % y:Nat):Int)=((m / 18446744073709551616:Nat):Int).tmod (y:Int):=rfl
 rw [e] at HD
 generalize m / 18446744073709551616 % y*18446744073709551616+m % 18446744073709551616=z at *
 clear e
 repeat' ((conv=>whnf);first|(with_reducible first|refine br_t ?_|refine br_f ?_|refine za ?_|refine zg ?_|refine xi (HD) ?_)|refine zp ?_|refine zq ?_|(with_reducible first|refine bc (fun h => ?_) (fun h => ?_)|refine zt ?_|refine zf ?_|refine br_i (fun h => ?_) (fun h => ?_))|refine zg ?_|refine zi ?_|refine zb ?_)
 all_goals conv=>whnf
 all_goals rfl
theorem gcd_of_mod (M d:Nat):Nat.gcd d (M % d)=Nat.gcd M d:=by rw [Nat.gcd_comm M,Nat.gcd_rec d M,Nat.gcd_comm]
theorem over_q (S:Int) (d:Nat) (hd:0<d):outQ (qv S d)=buildN (decide (S<0)) (S.natAbs / Nat.gcd S.natAbs d) (d / Nat.gcd S.natAbs d):=by
 have h:=makeV_q S d (by omega)
 rw [← h]
 unfold makeV
 rw [if_neg (by omega),decide_eq_false (show ¬ (d:Int)<0 by omega),Int.natAbs_natCast]
 cases decide (S<0)<;>rfl
theorem div_parts (m g:Nat) (h:0<g):m / g=m / 18446744073709551616 / g*18446744073709551616+(m / 18446744073709551616 % g*18446744073709551616+m % 18446744073709551616) / g∧(m / 18446744073709551616 % g*18446744073709551616+m % 18446744073709551616) / g<18446744073709551616:=by
 constructor
 ·have e1:=Nat.div_add_mod m 18446744073709551616
  have e2:=Nat.div_add_mod (m / 18446744073709551616) g
  generalize m / 18446744073709551616=a at *
  generalize m % 18446744073709551616=b at *
  have:m=g*(a / g*18446744073709551616)+(a % g*18446744073709551616+b):=by
   rw [← Nat.mul_assoc]
   generalize g*(a / g)=x at *
   omega
  rw [this,Nat.mul_add_div h]
 ·refine Nat.div_lt_of_lt_mul ?_
  have h1:m / 18446744073709551616 % g<g:=Nat.mod_lt _ h
  have:(m / 18446744073709551616 % g+1)*18446744073709551616≤g*18446744073709551616:=Nat.mul_le_mul_right _ h1
  omega
theorem tup_eq {a b c a' b' c':Int} (h1:a=a') (h2:b=b') (h3:c=c'):DV.tup [.agg [i64 a,i64 b],.one (i64 c)]=.tup [.agg [i64 a',i64 b'],.one (i64 c')]:=by rw [h1,h2,h3]
def atV (i a b n m:Int):Int × Int × Int:=if cpt i a b=0∧chk n m=0 then outQ (qv (a*m+b*n) m) else (0,0,8)
theorem kAt_fn (i a b n m : Int) : FnOK Tryz.prog 57 [pt i a b, rat n m] (ret3 (atV i a b n m)) := by
  refine fn_ok (by kernel_rfl) ty_ok Tryz.func57 rfl (fun _ _ => Tryz.call57 _ _) rfl ?_
  intro hw
  have H1 := kCheck_fn i a b
  have H2 := check_fn n m
  unfold atV
  split
  · rename_i h
    obtain ⟨h1, h2⟩ := h
    rw [h1] at H1
    rw [h2] at H2
    simp only [ret1, ret3] at *
    have g1 := cpt_ok h1
    obtain ⟨g2, _, _⟩ := (chk_iff n m).1 h2
    simp only [WDCs, WDC, WDs, wd_i64] at hw
    have p1 := prod_in3 (p := a) (k := m) (by omega) (by omega) (by omega) (by omega)
    have p2 := prod_in3 (p := b) (k := n) (by omega) (by omega) (by omega) (by omega)
    have HS := sum_fn a m b n (by omega)
    generalize hs : a * m + b * n = S at *
    obtain ⟨d, rfl⟩ := Int.eq_ofNat_of_zero_le (show 0 ≤ m by omega)
    obtain ⟨M, hM⟩ : ∃ M, M = S.natAbs := ⟨_, rfl⟩
    obtain ⟨o, ho⟩ : ∃ o, o = outQ (qv S d) := ⟨_, rfl⟩
    rw [← ho]
    have HR := rem64_fn M d (by omega)
    have hS2 : -38685626227668133590597632 ≤ S ∧ S ≤ 38685626227668133590597632 := by omega
    have W2 : IntKind.u64.wrap (d : Int) = d := by rw [IntKind.wrap_u64]; omega
    obtain ⟨h, l, hh, hl, U, L, CC⟩ : ∃ h l : Int, h = (if S < 0 then IntKind.i64.wrap (IntKind.i64.wrap (0 - S / 18446744073709551616) - IntKind.i64.wrap (if 0 < S % 18446744073709551616 + 0 then 1 else 0)) else S / 18446744073709551616) ∧
        l = (if S < 0 then (0 + 18446744073709551616 - S % 18446744073709551616 - 0) % 18446744073709551616 else S % 18446744073709551616) ∧ IntKind.u64.wrap h = ((M / 18446744073709551616 : Nat) : Int) ∧ l = ((M % 18446744073709551616 : Nat) : Int) ∧ True := by
      refine ⟨_, _, rfl, rfl, ?_, ?_, trivial⟩
      · split
        · rw [IntWalk.i64_in (0 - S / 18446744073709551616) (by omega)]
          split
          · rw [IntWalk.i64_in 1 (by omega), IntWalk.i64_in _ (by omega), IntKind.wrap_u64]; omega
          · rw [IntWalk.i64_in 0 (by omega), IntWalk.i64_in _ (by omega), IntKind.wrap_u64]; omega
        · rw [IntKind.wrap_u64]; omega
      · split <;> omega
    rw [← U, ← L, ← W2] at HR
    have SB := sub64_fn 0 (S % 18446744073709551616) 0 (by omega) (by omega)
    clear p1 p2 hs
    rcases (show S < 0 ∨ 0 ≤ S by omega) with hneg | hneg
    all_goals
      first | rw [if_pos hneg] at hh hl | rw [if_neg (by omega)] at hh hl
      rw [hh, hl] at HR
      repeat' ((conv => whnf); first | (with_reducible first | refine br_t ?_ | refine br_f ?_ | refine za ?_ | refine zg ?_ | refine xi (H1) ?_ | refine xi (H2) ?_ | refine xi (HS) ?_ | refine xi (HR) ?_ | refine xi (SB) ?_) | refine zp ?_ | refine zq ?_ | (with_reducible first | refine bc (fun h => ?_) (fun h => ?_) | refine zt ?_ | refine zf ?_ | refine br_i (fun h => ?_) (fun h => ?_)) | refine zg ?_ | refine zi ?_ | refine zb ?_)
      refine loop_I (by kernel_rfl) ty_ok (σ := Nat × Nat)
        (fun s => ([(4, .c (.at (.ptr 4 0))), (5, sV (.int .i64 0)), (7, .c (.at (.ptr 7 0))), (8, sV (.bool (decide (S / 18446744073709551616 < 0)))), (11, sV (.int .u64 (IntKind.u64.wrap (d : Int)))), (12, sV (.int .u64 (s.2 : Int))), (13, sV (.int .u64 (s.1 : Int)))],
          [(7, .own [.d (i64 h), .d (u64 l)]), (4, .own [.d (i64 0), .d (i64 0)])]))
        (fun s => Nat.gcd s.1 s.2 = Nat.gcd d (M % d)) (fun s => s.2) (d, M % d) rfl ⟨⟨rfl, rfl, rfl, rfl, rfl, rfl, ?_, trivial⟩, ⟨by rw [hh, hl]; rfl, rfl, trivial⟩, rfl⟩ ?_
      · exact congrArg (fun x => some (sV (.int .u64 x))) W2
      rintro ⟨g, r⟩ hI
      simp only at hI
      rcases Nat.eq_zero_or_pos r with h0 | h0
      · subst h0
        rw [Nat.gcd_zero_right, gcd_of_mod] at hI
        have g0 : 0 < g := by rw [hI]; exact Nat.gcd_pos_of_pos_right _ (by omega)
        have g1 : g ≤ d := by rw [hI]; exact Nat.gcd_le_right _ (by omega)
        rw [over_q S d (by omega), ← hM, ← hI] at ho
        have HD := div64_fn (M / 18446744073709551616 % g) (M % 18446744073709551616) g (Nat.mod_lt _ g0)
        rw [← L, show ((M / 18446744073709551616 % g : Nat) : Int) = (IntKind.u64.wrap h).tmod (g : Int) by rw [U]; rfl] at HD
        have Q := div_parts M g g0
        have Q2 := Q.2
        have hz : IntKind.u64.wrap ((IntKind.u64.wrap h).tdiv (g : Int)) = ((M / 18446744073709551616 / g : Nat) : Int) := by
          have : M / 18446744073709551616 / g ≤ M / 18446744073709551616 := Nat.div_le_self _ _
          rw [U, ← Int.ofNat_tdiv, IntKind.wrap_u64]
          generalize M / 18446744073709551616 / g = z at *
          omega
        have hdg : IntKind.i64.wrap (IntKind.u64.wrap ((IntKind.u64.wrap (d : Int)).tdiv (g : Int))) = ((d / g : Nat) : Int) := by
          have : d / g ≤ d := Nat.div_le_self _ _
          rw [W2, ← Int.ofNat_tdiv, IntKind.wrap_u64]
          generalize d / g = k at *
          rw [IntWalk.i64_in _ (by omega)]
          omega
        have hdl : d / g ≤ 9223372036854775807 := by
          have : d / g ≤ d := Nat.div_le_self _ _
          omega
        have Q1 := Q.1
        clear Q
        generalize (M / 18446744073709551616 % g * 18446744073709551616 + M % 18446744073709551616) / g = q at *
        generalize (M / 18446744073709551616 % g * 18446744073709551616 + M % 18446744073709551616) % g = q' at *
        generalize M / 18446744073709551616 / g = z at *
        have e0 : (g : Int) ≠ 0 := by omega
        rw [Q1] at ho
        clear HS HR SB hh hl L CC hw H1 H2 Q1 hI h1 h2 g1
        dsimp only
        repeat' ((conv => whnf); first | (with_reducible first | refine br_t ?_ | refine br_f ?_ | refine za ?_ | refine zg ?_ | refine xi (HD) ?_) | (with_reducible refine And.intro e0 ?_) | refine zp ?_ | refine zq ?_ | (with_reducible first | refine bc (fun h => ?_) (fun h => ?_) | refine zt ?_ | refine zf ?_ | refine br_i (fun h => ?_) (fun h => ?_)) | refine zg ?_ | refine zi ?_ | refine zb ?_)
        all_goals conv => whnf
        all_goals
          unfold buildN at ho
          first
          | (rw [if_neg (by omega)] at ho
             subst ho
             rfl)
          | (rw [if_pos (by omega)] at ho
             subst ho
             refine tup_eq ?_ hdg rfl
             first
             | (rw [decide_eq_true hneg, if_pos rfl, IntWalk.i64_in q (by omega), IntWalk.i64_in _ (by omega)]; omega)
             | (rw [decide_eq_false (by omega), if_neg (by simp), IntWalk.i64_in q (by omega)]; omega))
      · have E1 : (r : Int) ≠ 0 := by omega
        dsimp only
        repeat' ((conv => whnf); first | (with_reducible first | refine br_t ?_ | refine br_f ?_ | refine za ?_ | refine zg ?_) | (with_reducible refine And.intro E1 ?_) | refine zp ?_ | refine zq ?_ | (with_reducible first | refine bc (fun h => ?_) (fun h => ?_) | refine zt ?_ | refine zf ?_ | refine br_i (fun h => ?_) (fun h => ?_)) | refine zg ?_ | refine zi ?_ | refine zb ?_)
        all_goals conv => whnf
        refine ⟨(r, g % r), ?_, ⟨⟨rfl, rfl, rfl, rfl, rfl, rfl, rfl, trivial⟩, ⟨rfl, rfl, trivial⟩, rfl⟩, Nat.mod_lt _ h0⟩
        show Nat.gcd r (g % r) = _
        rw [← hI, Nat.gcd_comm r, ← Nat.gcd_rec, Nat.gcd_comm]
  · rename_i h
    rcases cpt_08 i a b with h1 | h1 <;> rcases chk_08 n m with h2 | h2
    · exact absurd ⟨h1, h2⟩ h
    all_goals
      rw [h1] at H1
      rw [h2] at H2
      simp only [ret1, ret3] at *
      repeat' ((conv => whnf); first | (with_reducible first | refine br_t ?_ | refine br_f ?_ | refine za ?_ | refine zg ?_ | refine xi (H1) ?_ | refine xi (H2) ?_) | refine zp ?_ | refine zq ?_ | (with_reducible first | refine bc (fun h => ?_) (fun h => ?_) | refine zt ?_ | refine zf ?_ | refine br_i (fun h => ?_) (fun h => ?_)) | refine zg ?_ | refine zi ?_ | refine zb ?_)
      all_goals conv => whnf
      all_goals rfl
end Go.Proofs.YtddbmpbihpkabaaGreat

namespace Go.Proofs.YtddbmpbihpkabaaGreat
open Go.RowKit Go.Sort Sx
set_option maxRecDepth 2000
theorem rmul_fn (p q r t:Int):FnOK Tryz.prog 131 (rat2 p q r t) (ret3 (mulV p q r t)):=by
 refine fn_of_calls (fun _ _=>Tryz.call131 _ _) rfl rfl (fun h => ?_) (fun h w => ?_)
 ·simp only [WDV,WDCs,WDC,WDs,wd_i64,and_true]
  have:=mulV_rng p q r t
  omega
 ·obtain ⟨⟨_,_,_,_⟩,_,_,_,_⟩:=wd2 h
  exact rmul_any p q r t w (by omega) (by omega) (by omega) (by omega) (by omega) (by omega) (by omega) (by omega)
theorem radd_fn (p q r t:Int):FnOK Tryz.prog 132 (rat2 p q r t) (ret3 (addV p q r t)):=by
 refine fn_of_calls (fun _ _=>Tryz.call132 _ _) rfl rfl (fun h => ?_) (fun h w => ?_)
 ·simp only [WDV,WDCs,WDC,WDs,wd_i64,and_true]
  have:=addV_rng p q r t
  omega
 ·obtain ⟨⟨_,_,_,_⟩,_,_,_,_⟩:=wd2 h
  exact radd_any p q r t w (by omega) (by omega) (by omega) (by omega) (by omega) (by omega) (by omega) (by omega)
theorem rcommon_fn (a b:Nat):FnOK Tryz.prog 137 [.one (u64 a),.one (u64 b)] (.c (.one (u64 (Nat.gcd a b:Nat)))):=by
 refine fn_of_calls (fun _ _=>Tryz.call137 _ _) rfl rfl (fun h => ?_) (fun h w => ?_)
 all_goals simp only [WDCs,WDC,wd_u64] at h
 ·simp only [WDV,WDCs,WDC,wd_u64,and_true]
  rcases Nat.eq_zero_or_pos a with h0|h0
  ·subst h0;rw [Nat.gcd_zero_left];omega
  ·have:=Nat.gcd_le_left b h0;omega
 ·exact rcommon_any a b w
abbrev bigN (m:Nat):DC:=.agg [bol false,u64 ((m / 18446744073709551616:Nat):Int),u64 ((m % 18446744073709551616:Nat):Int)]
theorem rdivided_fn (x:Bool) (m y:Nat) (hm:m<9223372036854775807*18446744073709551616) (hy:0<y) (hY:y≤9223372036854775808) :
  FnOK Tryz.prog 160 [.agg [bol x,u64 ((m / 18446744073709551616:Nat):Int),u64 ((m % 18446744073709551616:Nat):Int)],.one (u64 y)] (.tup [bigN (m / y),.one (u64 (m % y:Nat))]):=by
 refine fn_of_calls (fun _ _=>Tryz.call160 _ _) rfl rfl (fun h => ?_) (fun h w => ?_)
 all_goals simp only [WDCs,WDC,WDs,wd_u64,wd_bol] at h
 ·simp only [WDV,WDCs,WDC,WDs,wd_u64,wd_bol,and_true,true_and]
  have h1:m / y≤m:=Nat.div_le_self _ _
  have h2:m % y<y:=Nat.mod_lt _ hy
  generalize m / y=q at *
  generalize m % y=r at *
  omega
 ·exact rdivided_any x _ _ m y _ _ _ (big_two _) (big_two _) rfl hm hy hY w
theorem rmade_fn (x:Bool) (m n:Nat) (hm:m<18446744073709551616*18446744073709551616) (hn:n<18446744073709551616):FnOK Tryz.prog 159 [.one (bol x),bigN m,.agg [bol false,u64 0,u64 n]] (ret3 (buildN x m n)):=by
 refine fn_of_calls (fun _ _=>Tryz.call159 _ _) rfl rfl (fun h => ?_) (fun h w => ?_)
 ·simp only [WDV,WDCs,WDC,WDs,wd_i64,and_true]
  have:=buildN_rng x m n
  omega
 ·have:=rmade_two x false false _ _ 0 n m n (big_two _) (show Two 0 n n from ⟨by omega,by omega⟩) w
  exact this
theorem rover_fn (S:Int) (d:Nat) (hS:S.natAbs<9223372036854775807*18446744073709551616) (hd:0<d) (hd2:d≤9223372036854775807):FnOK Tryz.prog 134 [bigC S,.one (i64 d)] (ret3 (outQ (qv S d))):=by
 refine fn_ok (by kernel_rfl) ty_ok Tryz.func134 rfl (fun _ _=>Tryz.call134 _ _) rfl ?_
 intro hw
 clear hw
 have W2:IntKind.u64.wrap (d:Int)=d:=by rw [IntKind.wrap_u64];omega
 obtain ⟨M,hM⟩:∃ M,M=S.natAbs:=⟨_,rfl⟩
 rw [over_q S d hd,← hM]
 rw [← hM] at hS
 obtain ⟨g,hg⟩:∃ g,g=Nat.gcd M d:=⟨_,rfl⟩
 have g0:0<g:=by rw [hg];exact Nat.gcd_pos_of_pos_right _ (by omega)
 have g1:g≤d:=by rw [hg];exact Nat.gcd_le_right _ (by omega)
 have D1:=rdivided_fn (decide (S<0)) M d hS hd (by omega)
 have D2:=rdivided_fn (decide (S<0)) M g hS g0 (by omega)
 have C1:=rcommon_fn d (M % d)
 rw [gcd_of_mod,← hg] at C1
 have k1:M / g≤M:=Nat.div_le_self _ _
 have k2:d / g≤d:=Nat.div_le_self _ _
 have M1:=rmade_fn (decide (S<0)) (M / g) (d / g) (by omega) (by omega)
 rw [← hg]
 have e1:IntKind.u64.wrap ((d:Int).tdiv (g:Int))=((d / g:Nat):Int):=by
  rw [← Int.ofNat_tdiv,IntKind.wrap_u64]
  generalize d / g=k at *
  omega
 have e2:IntKind.u64.wrap ((IntKind.u64.wrap (d:Int)).tdiv (g:Int))=((d / g:Nat):Int):=by rw [W2,e1]
 rw [← e2] at M1
 have e0:(g:Int)≠0:=by omega
 have D1':FnOK Tryz.prog 160 [bigC S,.one (u64 (IntKind.u64.wrap (d:Int)))] (.tup [bigN (M / d),.one (u64 (M % d:Nat))]):=by rw [W2,bigC,← hM];exact D1
 have D2':FnOK Tryz.prog 160 [bigC S,.one (u64 g)] (.tup [bigN (M / g),.one (u64 (M % g:Nat))]):=by rw [bigC,← hM];exact D2
 have C1':FnOK Tryz.prog 137 [.one (u64 (IntKind.u64.wrap (d:Int))),.one (u64 (M % d:Nat))] (.c (.one (u64 g))):=by rw [W2];exact C1
 clear D1 D2 C1 k1 k2
 obtain ⟨o,ho⟩:∃ o,o=buildN (decide (S<0)) (M / g) (d / g):=⟨_,rfl⟩
 rw [← ho] at M1 ⊢
 clear ho hM hg
 simp only [ret3] at *
 generalize M / g=mg at *
 generalize M % g=mg2 at *
 generalize M / d=md at *
 generalize M % d=md2 at *
 repeat' ((conv=>whnf);first|(with_reducible first|refine br_t ?_|refine br_f ?_|refine za ?_|refine zg ?_|refine xi (D1') ?_|refine xi (D2') ?_|refine xi (C1') ?_|refine xi (M1) ?_)|(with_reducible refine And.intro e0 ?_)|refine zp ?_|refine zq ?_|(with_reducible first|refine bc (fun h => ?_) (fun h => ?_)|refine zt ?_|refine zf ?_|refine br_i (fun h => ?_) (fun h => ?_))|refine zg ?_|refine zi ?_|refine zb ?_)
 all_goals conv=>whnf
 all_goals rfl
theorem chk_one {a:Int} (h:a ≠ -9223372036854775808):chk a 1=0:=(chk_iff a 1).2 ⟨by omega,h,by show Nat.gcd _ 1=1;exact Nat.gcd_one_right _⟩
theorem place_q (a b n d:Int) (hd:1≤d):qv a 1+qv b 1*qv n d=qv (a*d+b*n) d:=by
 rw [qv_mul (by omega) hd,Int.one_mul,qv_add (by omega) hd,Int.one_mul,Int.mul_one]
theorem kkAt_fn (i a b n m:Int):FnOK Tryz.prog 95 [pt i a b,rat n m] (ret3 (atV i a b n m)):=by
 refine fn_ok (by kernel_rfl) ty_ok Tryz.func95 rfl (fun _ _=>Tryz.call95 _ _) rfl ?_
 intro hw
 have H1:=kkCheck_fn i a b
 have H2:=rcheck_fn n m
 unfold atV
 split
 ·rename_i h
  obtain ⟨h1,h2⟩:=h
  rw [h1] at H1
  rw [h2] at H2
  have g1:=cpt_ok h1
  obtain ⟨g2,_,_⟩:=(chk_iff n m).1 h2
  simp only [WDCs,WDC,WDs,wd_i64] at hw
  have p1:=prod_in3 (p:=a) (k:=m) (by omega) (by omega) (by omega) (by omega)
  have p2:=prod_in3 (p:=b) (k:=n) (by omega) (by omega) (by omega) (by omega)
  have M1:=rmul_fn b 1 n m
  rw [mulV_q (chk_one (by omega)) h2] at M1
  have P1:=rProduct_fn a m
  have P2:=rProduct_fn b n
  have hq:=place_q a b n m g2
  obtain ⟨d,rfl⟩:=Int.eq_ofNat_of_zero_le (show 0≤m by omega)
  obtain ⟨o,ho⟩:∃ o,o=outQ (qv (a*d+b*n) d):=⟨_,rfl⟩
  have O1:=rover_fn (a*d+b*n) d (by omega) (by omega) (by omega)
  rw [← ho] at O1 ⊢
  generalize a*(d:Int)=s at *
  generalize b*n=t at *
  have P3:=rPlus_fn s t (by omega) (by omega)
  rcases outQ_cases (qv b 1*qv n d) with ⟨u,v,e,c,q,_⟩|e
  ·rw [e] at M1
   have A1:=radd_fn a 1 u v
   rw [addV_q (chk_one (by omega)) c,q,hq,← ho] at A1
   simp only [ret1,ret3] at *
   repeat' ((conv=>whnf);first|(with_reducible first|refine br_t ?_|refine br_f ?_|refine za ?_|refine zg ?_|refine xi (H1) ?_|refine xi (H2) ?_|refine xi (M1) ?_|refine xi (A1) ?_)|refine zp ?_|refine zq ?_|(with_reducible first|refine bc (fun h => ?_) (fun h => ?_)|refine zt ?_|refine zf ?_|refine br_i (fun h => ?_) (fun h => ?_))|refine zg ?_|refine zi ?_|refine zb ?_)
   all_goals conv=>whnf
   all_goals rfl
  ·rw [e] at M1
   simp only [ret1,ret3] at *
   repeat' ((conv=>whnf);first|(with_reducible first|refine br_t ?_|refine br_f ?_|refine za ?_|refine zg ?_|refine xi (H1) ?_|refine xi (H2) ?_|refine xi (M1) ?_|refine xi (P1) ?_|refine xi (P2) ?_|refine xi (P3) ?_|refine xi (O1) ?_)|refine zp ?_|refine zq ?_|(with_reducible first|refine bc (fun h => ?_) (fun h => ?_)|refine zt ?_|refine zf ?_|refine br_i (fun h => ?_) (fun h => ?_))|refine zg ?_|refine zi ?_|refine zb ?_)
   all_goals conv=>whnf
   all_goals rfl
 ·rename_i h
  rcases cpt_08 i a b with h1|h1<;>rcases chk_08 n m with h2|h2
  ·exact absurd ⟨h1,h2⟩ h
  all_goals
   rw [h1] at H1
   rw [h2] at H2
   simp only [ret1,ret3] at *
   repeat' ((conv=>whnf);first|(with_reducible first|refine br_t ?_|refine br_f ?_|refine za ?_|refine zg ?_|refine xi (H1) ?_|refine xi (H2) ?_)|refine zp ?_|refine zq ?_|(with_reducible first|refine bc (fun h => ?_) (fun h => ?_)|refine zt ?_|refine zf ?_|refine br_i (fun h => ?_) (fun h => ?_))|refine zg ?_|refine zi ?_|refine zb ?_)
   all_goals conv=>whnf
   all_goals rfl
end Go.Proofs.YtddbmpbihpkabaaGreat

namespace Go.Proofs.YtddbmpbihpkabaaGreat
open Go.RowKit Go.Sort Sx
set_option maxRecDepth 2000
structure Pt where
 id:Int
 a:Int
 b:Int
 deriving DecidableEq,Inhabited
def Pt.c (p:Pt):List D:=[i64 p.id,i64 p.a,i64 p.b]
abbrev Pt.dc (p:Pt):DC:=pt p.id p.a p.b
abbrev pts (l:List Pt):D:=.list 3 (l.map Pt.c)
abbrev fld (l:List Pt):DC:=.agg [pts l]
def Pt.chk (p:Pt):Int:=cpt p.id p.a p.b
def incr:List Pt→Bool
 | p::q::l=>decide (p.id<q.id) && incr (q::l)
 | _=>true
def fchk (l:List Pt):Int:=if 64<l.length then 4 else if l.all (fun p=>p.chk == 0) then (if incr l then 0 else 32) else 8
theorem Pt.chk_08 (p:Pt):p.chk=0∨p.chk=8:=cpt_08 p.id p.a p.b
theorem pts_get {l:List Pt} {i:Nat} (h:i<l.length):(l.map Pt.c)[((i:Nat):Int).toNat]? = some [i64 l[i].id,i64 l[i].a,i64 l[i].b]:=by
 rw [Int.toNat_natCast,List.getElem?_map,List.getElem?_eq_getElem h];rfl
theorem pts_get' {l:List Pt} {i:Nat} {j:Int} (h:i<l.length) (e:j.toNat=i):(l.map Pt.c)[j.toNat]? = some [i64 l[i].id,i64 l[i].a,i64 l[i].b]:=by
 rw [e,List.getElem?_map,List.getElem?_eq_getElem h];rfl
theorem wd_pts {l:List Pt} (h:WD (pts l)):l.length≤9223372036854775807∧∀ p∈l,(-9223372036854775808≤p.id∧p.id≤9223372036854775807)∧(-9223372036854775808≤p.a∧p.a≤9223372036854775807)∧(-9223372036854775808≤p.b∧p.b≤9223372036854775807):=by
 obtain ⟨h1,_,h3⟩:=WD_list.1 h
 refine ⟨by simpa using h1,fun p hp => ?_⟩
 have h4:=h3 p.c (List.mem_map_of_mem hp)
 exact ⟨wd_i64.1 (h4 _ (by simp [Pt.c])),wd_i64.1 (h4 _ (by simp [Pt.c])),wd_i64.1 (h4 _ (by simp [Pt.c]))⟩
theorem all_take_succ {l:List Pt} {f:Pt→Bool} {i:Nat} (h:i<l.length):(l.take (i+1)).all f=((l.take i).all f && f l[i]):=by
 rw [List.take_succ_eq_append_getElem h,List.all_append];simp
theorem incr_iff:∀ {l:List Pt},incr l=true↔∀ i (h:i+1<l.length),l[i].id<l[i+1].id
 | []=>by simp [incr]
 | [p]=>by simp [incr]
 | p::q::l=>by
  rw [incr,Bool.and_eq_true,decide_eq_true_eq,incr_iff]
  constructor
  ·rintro ⟨h1,h2⟩ i h
   cases i with
   | zero=>exact h1
   | succ i=>exact h2 i (by simpa using h)
  ·exact fun h=>⟨h 0 (by simp),fun i hi=>h (i+1) (by simpa using hi)⟩
theorem fCheck_fn (l:List Pt):FnOK Tryz.prog 47 [fld l] (ret1 (fchk l)):=by
 refine fn_ok (by kernel_rfl) ty_ok Tryz.func47 rfl (fun _ _=>Tryz.call47 _ _) rfl ?_
 intro hw
 simp only [WDCs,WDC,WDs] at hw
 obtain ⟨w1,w2⟩:=wd_pts hw.1.1
 repeat' ((conv=>whnf);first|(with_reducible first|refine br_t ?_|refine br_f ?_|refine za ?_|refine zg ?_)|rw [List.length_map]|refine zp ?_|refine zq ?_|(with_reducible first|refine bc (fun h => ?_) (fun h => ?_)|refine zt ?_|refine zf ?_|refine br_i (fun h => ?_) (fun h => ?_))|refine zg ?_|refine zi ?_|refine zb ?_)
 ·conv=>whnf
  unfold fchk
  rw [if_pos (by omega)]
 unfold fchk
 rw [if_neg (by omega)]
 refine loop_J (by kernel_rfl) ty_ok (σ:=Nat) (fun i=>[(15,sV (.int .i64 i))]) (fun _=>[]) (fun i=>i≤l.length∧(l.take i).all (fun p=>p.chk == 0)=true) (fun i=>l.length-i) 0 ⟨by omega,by simp⟩ ?_ ?_
 ·(conv=>whnf);exact zent
 rintro i ⟨hi,hI⟩
 rcases Nat.lt_or_ge i l.length with hlt|hge
 ·have hel:=pts_get hlt
  have HC:=kCheck_fn l[i].id l[i].a l[i].b
  rcases Pt.chk_08 l[i] with hc|hc
  ·unfold Pt.chk at hc
   rw [hc] at HC
   repeat' ((conv=>whnf);first|(with_reducible first|refine br_t ?_|refine br_f ?_|refine za ?_|refine zg ?_|refine xi (HC) ?_)|rw [List.length_map]|refine zp ?_|refine zq ?_|(with_reducible first|refine bc (fun h => ?_) (fun h => ?_)|refine zt ?_|refine zf ?_|refine br_i (fun h => ?_) (fun h => ?_))|refine zg ?_|refine zi ?_|refine zb ?_)
   all_goals conv=>whnf
   refine ⟨i+1,⟨by omega,?_⟩,?_,by omega⟩
   ·rw [all_take_succ hlt,hI];simp [Pt.chk,hc]
   ·(conv=>whnf);exact zent
  ·have hn:l.all (fun p=>p.chk == 0)=false:=by
    rw [Bool.eq_false_iff]
    intro h
    have:=List.all_eq_true.1 h l[i] (List.getElem_mem hlt)
    rw [hc] at this;simp at this
   unfold Pt.chk at hc
   rw [hc] at HC
   repeat' ((conv=>whnf);first|(with_reducible first|refine br_t ?_|refine br_f ?_|refine za ?_|refine zg ?_|refine xi (HC) ?_)|rw [List.length_map]|refine zp ?_|refine zq ?_|(with_reducible first|refine bc (fun h => ?_) (fun h => ?_)|refine zt ?_|refine zf ?_|refine br_i (fun h => ?_) (fun h => ?_))|refine zg ?_|refine zi ?_|refine zb ?_)
   all_goals conv=>whnf
   rw [hn];rfl
 ·have hall:l.all (fun p=>p.chk == 0)=true:=by rw [List.take_of_length_le hge] at hI;exact hI
  rw [hall,if_pos rfl]
  repeat' ((conv=>whnf);first|(with_reducible first|refine br_t ?_|refine br_f ?_|refine za ?_|refine zg ?_)|rw [List.length_map]|refine zp ?_|refine zq ?_|(with_reducible first|refine bc (fun h => ?_) (fun h => ?_)|refine zt ?_|refine zf ?_|refine br_i (fun h => ?_) (fun h => ?_))|refine zg ?_|refine zi ?_|refine zb ?_)
  refine loop_J (by kernel_rfl) ty_ok (σ:=Nat) (fun i=>[(28,sV (.int .i64 i))]) (fun _=>[]) (fun i=>i≤l.length∧∀ j (h:j+1<l.length),j+1<i→l[j].id<l[j+1].id) (fun i=>l.length-i) 0 ⟨by omega,fun j _ h=>by omega⟩ ?_ ?_
  ·(conv=>whnf);exact zent
  rintro j ⟨hj,hJ⟩
  rcases Nat.lt_or_ge j l.length with hjlt|hjge
  ·have hel:=pts_get hjlt
   rcases Nat.eq_zero_or_pos j with h0|h0
   ·subst h0
    repeat' ((conv=>whnf);first|(with_reducible first|refine br_t ?_|refine br_f ?_|refine za ?_|refine zg ?_)|rw [List.length_map]|refine zp ?_|refine zq ?_|(with_reducible first|refine bc (fun h => ?_) (fun h => ?_)|refine zt ?_|refine zf ?_|refine br_i (fun h => ?_) (fun h => ?_))|refine zg ?_|refine zi ?_|refine zb ?_)
    all_goals conv=>whnf
    refine ⟨1,⟨by omega,fun k _ h=>by omega⟩,?_,by omega⟩
    (conv=>whnf);exact zent
   ·have hel2:=pts_get' (l:=l) (i:=j-1) (j:=IntKind.i64.wrap ((j:Int)-1)) (by omega) (by rw [IntWalk.i64_in _ (by omega)];omega)
    have hw1:IntKind.i64.wrap ((j:Int)-1)=((j-1:Nat):Int):=by rw [IntWalk.i64_in _ (by omega)];omega
    repeat' ((conv=>whnf);first|(with_reducible first|refine br_t ?_|refine br_f ?_|refine za ?_|refine zg ?_)|rw [List.length_map]|refine And.intro (by rw [hw1];omega) ?_|refine zp ?_|refine zq ?_|(with_reducible first|refine bc (fun h => ?_) (fun h => ?_)|refine zt ?_|refine zf ?_|refine br_i (fun h => ?_) (fun h => ?_))|refine zg ?_|refine zi ?_|refine zb ?_)
    all_goals conv=>whnf
    ·rename_i h
     have hf:incr l=false:=by
      rw [Bool.eq_false_iff,ne_eq,incr_iff]
      intro hh
      have:=hh (j-1) (by omega)
      rw [show l[j-1+1]'(by omega)=l[j] from getElem_congr rfl (by omega) _] at this
      omega
     rw [hf];rfl
    ·rename_i h
     refine ⟨j+1,⟨by omega,fun k hk hk2 => ?_⟩,?_,by omega⟩
     ·rcases Nat.lt_or_ge (k+1) j with h1|h1
      ·exact hJ k hk h1
      ·have e:k=j-1:=by omega
       subst e
       rw [show l[j-1+1]'hk=l[j] from getElem_congr rfl (by omega) _]
       omega
     ·(conv=>whnf);exact zent
  ·have ht:incr l=true:=incr_iff.2 fun k hk=>hJ k hk (by omega)
   repeat' ((conv=>whnf);first|(with_reducible first|refine br_t ?_|refine br_f ?_|refine za ?_|refine zg ?_)|rw [List.length_map]|refine zp ?_|refine zq ?_|(with_reducible first|refine bc (fun h => ?_) (fun h => ?_)|refine zt ?_|refine zf ?_|refine br_i (fun h => ?_) (fun h => ?_))|refine zg ?_|refine zi ?_|refine zb ?_)
   all_goals conv=>whnf
   all_goals
    rw [ht];rfl
theorem rfCheck_fn (l:List Pt):FnOK Tryz.prog 67 [fld l] (ret1 (fchk l)):=by
 refine fn_ok (by kernel_rfl) ty_ok Tryz.func67 rfl (fun _ _=>Tryz.call67 _ _) rfl ?_
 intro hw
 simp only [WDCs,WDC,WDs] at hw
 obtain ⟨w1,w2⟩:=wd_pts hw.1.1
 repeat' ((conv=>whnf);first|(with_reducible first|refine br_t ?_|refine br_f ?_|refine za ?_|refine zg ?_)|rw [List.length_map]|refine zp ?_|refine zq ?_|(with_reducible first|refine bc (fun h => ?_) (fun h => ?_)|refine zt ?_|refine zf ?_|refine br_i (fun h => ?_) (fun h => ?_))|refine zg ?_|refine zi ?_|refine zb ?_)
 ·conv=>whnf
  unfold fchk
  rw [if_pos (by omega)]
 unfold fchk
 rw [if_neg (by omega)]
 refine loop_J (by kernel_rfl) ty_ok (σ:=Nat) (fun i=>[(3,sV (.int .i64 i))]) (fun _=>[]) (fun i=>i≤l.length∧(l.take i).all (fun p=>p.chk == 0)=true) (fun i=>l.length-i) 0 ⟨by omega,by simp⟩ ?_ ?_
 ·(conv=>whnf);exact zent
 rintro i ⟨hi,hI⟩
 rcases Nat.lt_or_ge i l.length with hlt|hge
 ·have hel:=pts_get hlt
  have HC:=kkCheck_fn l[i].id l[i].a l[i].b
  rcases Pt.chk_08 l[i] with hc|hc
  ·unfold Pt.chk at hc
   rw [hc] at HC
   repeat' ((conv=>whnf);first|(with_reducible first|refine br_t ?_|refine br_f ?_|refine za ?_|refine zg ?_|refine xi (HC) ?_)|rw [List.length_map]|refine zp ?_|refine zq ?_|(with_reducible first|refine bc (fun h => ?_) (fun h => ?_)|refine zt ?_|refine zf ?_|refine br_i (fun h => ?_) (fun h => ?_))|refine zg ?_|refine zi ?_|refine zb ?_)
   all_goals conv=>whnf
   refine ⟨i+1,⟨by omega,?_⟩,?_,by omega⟩
   ·rw [all_take_succ hlt,hI];simp [Pt.chk,hc]
   ·(conv=>whnf);exact zent
  ·have hn:l.all (fun p=>p.chk == 0)=false:=by
    rw [Bool.eq_false_iff]
    intro h
    have:=List.all_eq_true.1 h l[i] (List.getElem_mem hlt)
    rw [hc] at this;simp at this
   unfold Pt.chk at hc
   rw [hc] at HC
   repeat' ((conv=>whnf);first|(with_reducible first|refine br_t ?_|refine br_f ?_|refine za ?_|refine zg ?_|refine xi (HC) ?_)|rw [List.length_map]|refine zp ?_|refine zq ?_|(with_reducible first|refine bc (fun h => ?_) (fun h => ?_)|refine zt ?_|refine zf ?_|refine br_i (fun h => ?_) (fun h => ?_))|refine zg ?_|refine zi ?_|refine zb ?_)
   all_goals conv=>whnf
   rw [hn];rfl
 ·have hall:l.all (fun p=>p.chk == 0)=true:=by rw [List.take_of_length_le hge] at hI;exact hI
  rw [hall,if_pos rfl]
  repeat' ((conv=>whnf);first|(with_reducible first|refine br_t ?_|refine br_f ?_|refine za ?_|refine zg ?_)|rw [List.length_map]|refine zp ?_|refine zq ?_|(with_reducible first|refine bc (fun h => ?_) (fun h => ?_)|refine zt ?_|refine zf ?_|refine br_i (fun h => ?_) (fun h => ?_))|refine zg ?_|refine zi ?_|refine zb ?_)
  refine loop_J (by kernel_rfl) ty_ok (σ:=Nat) (fun i=>[(4,sV (.int .i64 ((i+1:Nat):Int)))]) (fun _=>[]) (fun i=>i≤l.length∧∀ j (h:j+1<l.length),j<i→l[j].id<l[j+1].id) (fun i=>l.length-i) 0 ⟨by omega,fun j _ h=>by omega⟩ ?_ ?_
  ·(conv=>whnf);exact zent
  rintro j ⟨hj,hJ⟩
  rcases Nat.lt_or_ge (j+1) l.length with hjlt|hjge
  ·have hel:=pts_get hjlt
   have hel2:=pts_get' (l:=l) (i:=j) (j:=IntKind.i64.wrap (((j+1:Nat):Int)-1)) (by omega) (by rw [IntWalk.i64_in _ (by omega)];omega)
   have hw1:IntKind.i64.wrap (((j+1:Nat):Int)-1)=(j:Int):=by rw [IntWalk.i64_in _ (by omega)];omega
   repeat' ((conv=>whnf);first|(with_reducible first|refine br_t ?_|refine br_f ?_|refine za ?_|refine zg ?_)|rw [List.length_map]|refine And.intro (by rw [hw1];omega) ?_|refine zp ?_|refine zq ?_|(with_reducible first|refine bc (fun h => ?_) (fun h => ?_)|refine zt ?_|refine zf ?_|refine br_i (fun h => ?_) (fun h => ?_))|refine zg ?_|refine zi ?_|refine zb ?_)
   all_goals conv=>whnf
   ·rename_i h
    have hf:incr l=false:=by
     rw [Bool.eq_false_iff,ne_eq,incr_iff]
     intro hh
     have:=hh j (by omega)
     omega
    rw [hf];rfl
   ·rename_i h
    refine ⟨j+1,⟨by omega,fun k hk hk2 => ?_⟩,?_,by omega⟩
    ·rcases Nat.lt_or_ge k j with h1|h1
     ·exact hJ k hk h1
     ·have e:k=j:=by omega
      subst e
      omega
    ·(conv=>whnf);exact zent
  ·have ht:incr l=true:=incr_iff.2 fun k hk=>hJ k hk (by omega)
   repeat' ((conv=>whnf);first|(with_reducible first|refine br_t ?_|refine br_f ?_|refine za ?_|refine zg ?_)|rw [List.length_map]|refine zp ?_|refine zq ?_|(with_reducible first|refine bc (fun h => ?_) (fun h => ?_)|refine zt ?_|refine zf ?_|refine br_i (fun h => ?_) (fun h => ?_))|refine zg ?_|refine zi ?_|refine zb ?_)
   all_goals conv=>whnf
   all_goals
    rw [ht];rfl
end Go.Proofs.YtddbmpbihpkabaaGreat

namespace Go.Proofs.YtddbmpbihpkabaaGreat
open Go Go.RowKit Sx
theorem fits_point {ds:List D} (h:Fits shPoint ds):∃ p:Pt,ds=p.c:=by
 obtain ⟨_,_,rfl,⟨n,rfl⟩,_,_,rfl,⟨m,rfl⟩,_,_,rfl,⟨k,rfl⟩,rfl⟩:=h
 exact ⟨⟨n,m,k⟩,rfl⟩
theorem fits_pts {ds:List D} (h:Fits (.sl 3 shPoint) ds):∃ l:List Pt,ds=[pts l]:=by
 obtain ⟨l,rfl,h⟩:=h
 obtain ⟨l',rfl⟩:=exists_map (f:=Pt.c) fun x hx=>fits_point (h x hx)
 exact ⟨l',rfl⟩
theorem fits_field {ds:List D} (h:Fits shField ds):∃ l:List Pt,ds=[pts l]:=by
 obtain ⟨_,_,rfl,h,rfl⟩:=h
 obtain ⟨l,rfl⟩:=fits_pts h
 exact ⟨l,rfl⟩
end Go.Proofs.YtddbmpbihpkabaaGreat

namespace Go.Proofs.YtddbmpbihpkabaaGreat
open Go.RowKit Go.Sort Sx
set_option maxRecDepth 2000
abbrev ownL (k:Nat) (l:List (List D)):OwnR:=⟨.c (.one (.list k l)),0,0,k,l⟩
theorem ok_of_own {P:Program} {f k:Nat} {args:List DC} {l:List (List D)} (h:FnOwn P f args (ownL k l)):FnOK P f args (.c (.one (.list k l))):=by
 intro w M vs hM hvs
 obtain ⟨g,hg,hc⟩:=h w M vs hM hvs
 refine .inl ⟨g,hg,hc.mono ?_⟩
 rintro e w' ⟨v,m,rfl,hb,h1,h2,h3,h4,h5⟩
 refine ⟨v,rfl,?_,hb⟩
 have h4:AtR (fun _=>m) w' (fun b=>M b∨0<m.cap∧b=m.b) (.osl 0 0) v:=h4
 obtain ⟨_,_,_,k4⟩:=h4
 exact row_data h5 (k4 h2.symm) (fun b _ h=>.inl h) (fun h hm=>by have:=hM _ hm;have:=(h3 h).1;omega) (fun h=>(h3 h).2)
theorem clonePt_own (l:List (List D)) (hl:l.length≤1000000):FnOwn Tryz.prog 34 [.one (.list 3 l)] (ownL 3 l):=by
 cases l with
 | nil =>
  refine own_list ?_ ?_
  ·refine fn_own (by kernel_rfl) (ty_okK [7] [] [] []) Tryz.func34 rfl (fun _ _=>Tryz.call34 _ _) rfl ?_
   intro hw
   repeat' ((conv=>whnf);first|(with_reducible first|refine br_t ?_|refine br_f ?_|refine za ?_|refine zg ?_|refine zo ?_)|refine zp ?_|refine zq ?_|(with_reducible first|refine bc (fun h => ?_) (fun h => ?_)|refine zt ?_|refine zf ?_|refine br_i (fun h => ?_) (fun h => ?_))|refine zg ?_|refine zi ?_|refine zb ?_|refine zl ?_)
   all_goals conv=>whnf
   exact .inr ⟨100,_,_,rfl,rfl,rfl,rfl,rfl⟩
  ·refine fn_own (by kernel_rfl) (ty_okK [7] [] [] []) Tryz.func34 rfl (fun _ _=>Tryz.call34 _ _) rfl ?_
   intro hw
   repeat' ((conv=>whnf);first|(with_reducible first|refine br_t ?_|refine br_f ?_|refine za ?_|refine zg ?_|refine zo ?_)|refine zp ?_|refine zq ?_|(with_reducible first|refine bc (fun h => ?_) (fun h => ?_)|refine zt ?_|refine zf ?_|refine br_i (fun h => ?_) (fun h => ?_))|refine zg ?_|refine zi ?_|refine zb ?_|refine zl ?_)
   all_goals conv=>whnf
   exact .inl ⟨5,1,_,rfl,rfl,rfl⟩
 | cons x xs =>
  refine fn_own (by kernel_rfl) (ty_okK [7] [] [] []) Tryz.func34 rfl (fun _ _=>Tryz.call34 _ _) rfl ?_
  intro hw
  simp only [List.length_cons] at hl
  repeat' ((conv=>whnf);first|(with_reducible first|refine br_t ?_|refine br_f ?_|refine za ?_|refine zg ?_|refine zo ?_)|refine zp ?_|refine zq ?_|(with_reducible first|refine bc (fun h => ?_) (fun h => ?_)|refine zt ?_|refine zf ?_|refine br_i (fun h => ?_) (fun h => ?_))|refine zg ?_|refine zi ?_|refine zb ?_|refine zl ?_)
  all_goals conv=>whnf
  exact .inl ⟨5,1,_,rfl,rfl,rfl⟩
theorem rfTwin_own (l:List Pt) (hl:l.length≤1000000):FnOwn Tryz.prog 31 [fld l] ⟨.c (fld l),0,0,3,l.map Pt.c⟩:=by
 refine fn_own (by kernel_rfl) (ty_okK [6] [] [] []) Tryz.func31 rfl (fun _ _=>Tryz.call31 _ _) rfl ?_
 intro hw
 repeat' ((conv=>whnf);first|(with_reducible first|refine br_t ?_|refine br_f ?_|refine za ?_|refine zg ?_|refine zo ?_)|rw [List.length_map]|refine zp ?_|refine zq ?_|(with_reducible first|refine bc (fun h => ?_) (fun h => ?_)|refine zt ?_|refine zf ?_|refine br_i (fun h => ?_) (fun h => ?_))|refine zg ?_|refine zi ?_|refine zb ?_|refine zl ?_)
 all_goals conv=>whnf
 exact .inl ⟨3,1,_,rfl,rfl,rfl⟩
def pos:List Pt→Int→Nat
 | [],_=>0
 | p::l,id=>if p.id<id then pos l id+1 else 0
def has (l:List Pt) (id:Int):Bool:=l.any fun p=>p.id == id
theorem incr_lt {l:List Pt} (h:incr l=true):∀ (j i:Nat) (hj:j<l.length) (hij:i<j),l[i].id<l[j].id:=by
 intro j
 induction j with
 | zero=>intro i _ h;omega
 | succ j ih =>
  intro i hj hij
  have h1:=incr_iff.1 h j hj
  rcases Nat.lt_or_ge i j with h2|h2
  ·have:=ih i (by omega) h2;omega
  ·have:i=j:=by omega
   subst this;exact h1
theorem incr_tail {p:Pt} {l:List Pt} (h:incr (p::l)=true):incr l=true:=by
 cases l with
 | nil=>rfl
 | cons q l=>rw [incr,Bool.and_eq_true] at h;exact h.2
theorem pos_le:∀ (l:List Pt) (id:Int),pos l id≤l.length
 | [],_=>Nat.le_refl _
 | p::l,id=>by rw [pos];split<;>simp [pos_le l id]
theorem pos_eq:∀ {l:List Pt} {id:Int} {i:Nat},i≤l.length→(∀ k (h:k<l.length),k<i→l[k].id<id)→(∀ k (h:k<l.length),i≤k→id≤l[k].id)→pos l id=i
 | [],id,i,hi,_,_=>by simp at hi;simp [pos,hi]
 | p::l,id,0,hi,h1,h2=>by
  have:=h2 0 (by simp) (Nat.le_refl _)
  simp at this
  rw [pos,if_neg (by omega)]
 | p::l,id,i+1,hi,h1,h2=>by
  have:=h1 0 (by simp) (by omega)
  simp at this
  rw [pos,if_pos this,pos_eq (by simpa using hi) (fun k h hk=>h1 (k+1) (by simpa using h) (by omega)) (fun k h hk=>h2 (k+1) (by simpa using h) (by omega))]
theorem pos_spec:∀ {l:List Pt} {id:Int},incr l=true→(∀ k (h:k<l.length),k<pos l id→l[k].id<id)∧∀ k (h:k<l.length),pos l id≤k→id≤l[k].id
 | [],id,_=>⟨fun k h=>by simp at h,fun k h=>by simp at h⟩
 | p::l,id,hs=>by
  rw [pos]
  split
  ·rename_i hp
   obtain ⟨h1,h2⟩:=pos_spec (id:=id) (incr_tail hs)
   refine ⟨fun k h hk => ?_,fun k h hk => ?_⟩
   ·cases k with
    | zero=>exact hp
    | succ k=>simpa using h1 k (by simpa using h) (by omega)
   ·cases k with
    | zero=>omega
    | succ k=>simpa using h2 k (by simpa using h) (by omega)
  ·rename_i hp
   refine ⟨fun k h hk=>by omega,fun k h hk => ?_⟩
   cases k with
   | zero=>simp;omega
   | succ k =>
    have:=incr_lt hs (k+1) 0 h (by omega)
    simp at this ⊢;omega
theorem has_pos {l:List Pt} {id:Int} (hs:incr l=true):has l id=true↔∃ h:pos l id<l.length,l[pos l id].id=id:=by
 unfold has
 rw [List.any_eq_true]
 obtain ⟨h1,h2⟩:=pos_spec (id:=id) hs
 constructor
 ·rintro ⟨p,hp,he⟩
  obtain ⟨k,hk,rfl⟩:=List.getElem_of_mem hp
  have he:l[k].id=id:=by simpa using he
  have hle:pos l id≤k:=by
   rcases Nat.lt_or_ge k (pos l id) with h|h
   ·have:=h1 k hk h;omega
   ·exact h
  have hlt:pos l id<l.length:=by omega
  refine ⟨hlt,?_⟩
  have:=h2 (pos l id) hlt (Nat.le_refl _)
  rcases Nat.eq_or_lt_of_le hle with h|h
  ·rw [getElem_congr rfl h];exact he
  ·have:=incr_lt hs k (pos l id) hk h;omega
 ·rintro ⟨h,he⟩
  exact ⟨_,List.getElem_mem h,by simpa using he⟩
theorem mid_eq (i j:Nat) (h:i+j≤9223372036854775807):IntKind.i64.wrap ((IntKind.u64.wrap (IntKind.i64.wrap ((i:Int)+(j:Int)))).fdiv (2 ^ (min (Int.toNat 1) (IntKind.bits .u64))))=(((i+j) / 2:Nat):Int):=by
 have e1:(2:Int) ^ (min (Int.toNat 1) (IntKind.bits .u64))=2:=rfl
 have e2:IntKind.u64.wrap (((i+j:Nat):Int))=((i+j:Nat):Int):=by rw [IntKind.wrap_u64];omega
 have e3:IntKind.i64.wrap ((i:Int)+(j:Int))=((i+j:Nat):Int):=by rw [IntWalk.i64_in _ (by omega)];omega
 rw [e3,e2,e1,Int.fdiv_eq_ediv_of_nonneg _ (by omega)]
 have e4:((i+j:Nat):Int) / 2=(((i+j) / 2:Nat):Int):=by omega
 rw [e4,IntWalk.i64_in _ (by omega)]
theorem ffind1_fn (p:Pt) (id:Int):FnOK Tryz.prog 106 [p.dc,.one (i64 id)] (ret1 (cmpN p.id id)):=by
 refine fn_ok (by kernel_rfl) ty_ok Tryz.func106 rfl (fun _ _=>Tryz.call106 _ _) rfl ?_
 intro hw
 repeat' ((conv=>whnf);first|(with_reducible first|refine br_t ?_|refine br_f ?_|refine za ?_|refine zg ?_|refine xi (cmpint_fn _ _) ?_)|refine zp ?_|refine zq ?_|(with_reducible first|refine bc (fun h => ?_) (fun h => ?_)|refine zt ?_|refine zf ?_|refine br_i (fun h => ?_) (fun h => ?_))|refine zg ?_|refine zi ?_|refine zb ?_)
 all_goals conv=>whnf
 all_goals rfl
theorem bsPt_fn (l:List Pt) (id:Int) (hs:incr l=true) (hl:l.length≤1000000):FnOK Tryz.prog 105 [.one (pts l),.one (i64 id),.one (.clo 106 [])] (.tup [.one (i64 (pos l id:Nat)),.one (bol (has l id))]):=by
 refine fn_ok (by kernel_rfl) ty_ok Tryz.func105 rfl (fun _ _=>Tryz.call105 _ _) rfl ?_
 intro hw
 repeat' ((conv=>whnf);first|(with_reducible first|refine br_t ?_|refine br_f ?_|refine za ?_|refine zg ?_)|rw [List.length_map]|refine zp ?_|refine zq ?_|(with_reducible first|refine bc (fun h => ?_) (fun h => ?_)|refine zt ?_|refine zf ?_|refine br_i (fun h => ?_) (fun h => ?_))|refine zg ?_|refine zi ?_|refine zb ?_)
 refine loop_J (by kernel_rfl) ty_ok (σ:=Nat × Nat) (fun s=>[(9,sV (.int .i64 s.1)),(10,sV (.int .i64 s.2))]) (fun _=>[])
  (fun s=>s.1≤s.2∧s.2≤l.length∧(∀ k (h:k<l.length),k<s.1→l[k].id<id)∧∀ k (h:k<l.length),s.2≤k→id≤l[k].id) (fun s=>s.2-s.1) (0,l.length) ⟨by omega,by omega,fun k h hk=>absurd hk (Nat.not_lt_zero _),fun k h hk=>absurd h (by show ¬ k<l.length;exact Nat.not_lt.2 hk)⟩ ?_ ?_
 ·(conv=>whnf);exact zent
 rintro ⟨i,j⟩ ⟨h1,h2,h3,h4⟩
 simp only at h1 h2 h3 h4
 rcases Nat.lt_or_ge i j with hlt|hge
 ·have hm:(i+j) / 2<l.length:=by omega
  have hmid:=mid_eq i j (by omega)
  have hel:=pts_get hm
  have HC:=ffind1_fn l[(i+j) / 2] id
  rcases (show l[(i+j) / 2].id<id∨id≤l[(i+j) / 2].id by omega) with hc|hc
  ·have e:cmpN l[(i+j) / 2].id id = -1:=by unfold cmpN;rw [if_pos hc]
   rw [e] at HC
   repeat' ((conv=>whnf);first|(with_reducible first|refine br_t ?_|refine br_f ?_|refine za ?_|refine zg ?_)|rw [List.length_map]|rw [hmid]|refine zp ?_|refine zq ?_|(with_reducible first|refine bc (fun h => ?_) (fun h => ?_)|refine zt ?_|refine zf ?_|refine br_i (fun h => ?_) (fun h => ?_))|refine zg ?_|refine zi ?_|refine zb ?_)
   all_goals conv=>whnf
   refine ⟨((i+j) / 2+1,j),⟨by show _≤_;omega,h2,fun k h hk => ?_,h4⟩,?_,by show _-_<_-_;omega⟩
   ·rcases Nat.lt_or_ge k ((i+j) / 2) with h5|h5
    ·have:=incr_lt hs _ _ hm h5;omega
    ·have:k=(i+j) / 2:=by show k=_;simp only at hk;omega
     subst this;exact hc
   ·(conv=>whnf);exact zent
  ·have e:0≤cmpN l[(i+j) / 2].id id:=by unfold cmpN;split<;>(try split)<;>omega
   generalize cmpN l[(i+j) / 2].id id=c at HC e
   repeat' ((conv=>whnf);first|(with_reducible first|refine br_t ?_|refine br_f ?_|refine za ?_|refine zg ?_)|rw [List.length_map]|rw [hmid]|refine zp ?_|refine zq ?_|(with_reducible first|refine bc (fun h => ?_) (fun h => ?_)|refine zt ?_|refine zf ?_|refine br_i (fun h => ?_) (fun h => ?_))|refine zg ?_|refine zi ?_|refine zb ?_)
   all_goals conv=>whnf
   refine ⟨(i,(i+j) / 2),⟨by show _≤_;omega,by show _≤_;omega,h3,fun k h hk => ?_⟩,?_,by show _-_<_-_;omega⟩
   ·rcases Nat.lt_or_ge ((i+j) / 2) k with h5|h5
    ·have:=incr_lt hs k _ h h5;omega
    ·have:k=(i+j) / 2:=by simp only at hk;omega
     subst this;exact hc
   ·(conv=>whnf);exact zent
 ·have e:i=j:=by omega
  subst e
  have hp:=pos_eq (id:=id) h2 h3 h4
  rw [hp]
  have hh:=has_pos (id:=id) hs
  rcases Nat.lt_or_ge i l.length with hlt|hge2
  ·have hel:=pts_get hlt
   have HC:=ffind1_fn l[i] id
   have e2:has l id=decide (cmpN l[i].id id=0):=by
    rw [Bool.eq_iff_iff,hh,decide_eq_true_eq]
    have e3:cmpN l[i].id id=0↔l[i].id=id:=by
     unfold cmpN
     split
     ·exact ⟨fun h=>by omega,fun h=>by omega⟩
     ·split
      ·exact ⟨fun h=>by omega,fun h=>by omega⟩
      ·exact ⟨fun h=>by omega,fun h=>rfl⟩
    rw [e3]
    constructor
    ·rintro ⟨h,e⟩;exact (congrArg Pt.id (getElem_congr rfl hp.symm _)).trans e
    ·intro e;exact ⟨by omega,(congrArg Pt.id (getElem_congr rfl hp _)).trans e⟩
   rw [e2]
   generalize cmpN l[i].id id=c at HC
   by_cases hc:c=0
   all_goals
    repeat' ((conv=>whnf);first|(with_reducible first|refine br_t ?_|refine br_f ?_|refine za ?_|refine zg ?_)|rw [List.length_map]|refine zp ?_|refine zq ?_|(with_reducible first|refine bc (fun h => ?_) (fun h => ?_)|refine zt ?_|refine zf ?_|refine br_i (fun h => ?_) (fun h => ?_))|refine zg ?_|refine zi ?_|refine zb ?_)
    all_goals conv=>whnf
    all_goals simp [hc]
  ·have e2:has l id=false:=by
    rw [Bool.eq_false_iff,ne_eq,hh]
    rintro ⟨h,_⟩;omega
   rw [e2]
   repeat' ((conv=>whnf);first|(with_reducible first|refine br_t ?_|refine br_f ?_|refine za ?_|refine zg ?_)|rw [List.length_map]|refine zp ?_|refine zq ?_|(with_reducible first|refine bc (fun h => ?_) (fun h => ?_)|refine zt ?_|refine zf ?_|refine br_i (fun h => ?_) (fun h => ?_))|refine zg ?_|refine zi ?_|refine zb ?_)
   all_goals conv=>whnf
   all_goals rfl
end Go.Proofs.YtddbmpbihpkabaaGreat

namespace Go.Proofs.YtddbmpbihpkabaaGreat
open Go.RowKit Go.Sort Sx
set_option maxRecDepth 2000
abbrev retIB (i:Int) (b:Bool):DV:=.tup [.one (i64 i),.one (bol b)]
theorem fchk_ok {l:List Pt} (h:fchk l=0):l.length≤64∧(∀ p∈l,p.chk=0)∧incr l=true:=by
 unfold fchk at h
 split at h
 ·omega
 ·split at h
  ·rename_i h1 h2
   split at h
   ·rename_i h3
    exact ⟨by omega,fun p hp=>by simpa using List.all_eq_true.1 h2 p hp,h3⟩
   ·omega
  ·omega
theorem ffind_fn (l:List Pt) (id:Int) (hs:incr l=true) (hl:l.length≤1000000):FnOK Tryz.prog 75 [fld l,.one (i64 id)] (retIB (pos l id:Nat) (has l id)):=by
 refine fn_ok (by kernel_rfl) ty_ok Tryz.func75 rfl (fun _ _=>Tryz.call75 _ _) rfl ?_
 intro hw
 have HC:=bsPt_fn l id hs hl
 exact zw
def placeV (l:List Pt) (id:Int):Int × Int:=if fchk l=0 then (if has l id then ((pos l id:Nat),0) else (0,6)) else (0,fchk l)
theorem fplace_fn (l:List Pt) (id:Int):FnOK Tryz.prog 77 [fld l,.one (i64 id)] (ret2 (placeV l id)):=by
 refine fn_ok (by kernel_rfl) ty_ok Tryz.func77 rfl (fun _ _=>Tryz.call77 _ _) rfl ?_
 intro hw
 have H1:=fCheck_fn l
 unfold placeV
 by_cases h0:fchk l=0
 ·obtain ⟨k1,k2,k3⟩:=fchk_ok h0
  have H2:=ffind_fn l id k3 (by omega)
  rw [h0] at H1
  rw [if_pos h0]
  cases hh:has l id<;>rw [hh] at H2
  all_goals
   exact zw
 ·rw [if_neg h0]
  exact zw
def at1:List Pt→Int→Int→Int
 | [],_,_ => -1
 | p::l,id,i=>if p.id=id then i else at1 l id (i+1)
theorem at1_drop {l:List Pt} {id:Int}:∀ {n i:Nat},n=l.length-i→i≤l.length→(∀ k (h:k<l.length),k<i→l[k].id≠id)→at1 l id 0=at1 (l.drop i) id i:=by
 intro n i
 induction i generalizing n with
 | zero=>intro _ _ _;rfl
 | succ i ih =>
  intro hn hi h
  have hlt:i<l.length:=by omega
  rw [ih (n:=n+1) (by omega) (by omega) (fun k hk hki=>h k hk (by omega)),List.drop_eq_getElem_cons hlt,at1,if_neg (h i hlt (by omega))]
  rfl
theorem rfAt_fn (l:List Pt) (id:Int):FnOK Tryz.prog 63 [fld l,.one (i64 id)] (ret1 (at1 l id 0)):=by
 refine fn_ok (by kernel_rfl) ty_ok Tryz.func63 rfl (fun _ _=>Tryz.call63 _ _) rfl ?_
 intro hw
 simp only [WDCs,WDC,WDs] at hw
 obtain ⟨w1,w2⟩:=wd_pts hw.1.1
 repeat' ((conv=>whnf);first|(with_reducible first|refine br_t ?_|refine br_f ?_|refine za ?_|refine zg ?_)|refine zp ?_|refine zq ?_|(with_reducible first|refine bc (fun h => ?_) (fun h => ?_)|refine zt ?_|refine zf ?_|refine br_i (fun h => ?_) (fun h => ?_))|refine zg ?_|refine zi ?_|refine zb ?_)
 refine loop_J (by kernel_rfl) ty_ok (σ:=Nat) (fun i=>[(5,sV (.int .i64 i))]) (fun _=>[]) (fun i=>i≤l.length∧∀ k (h:k<l.length),k<i→l[k].id≠id) (fun i=>l.length-i) 0 ⟨by omega,fun k _ h=>absurd h (Nat.not_lt_zero _)⟩ ?_ ?_
 ·(conv=>whnf);exact zent
 rintro i ⟨hi,hI⟩
 rcases Nat.lt_or_ge i l.length with hlt|hge
 ·have hel:=pts_get hlt
  by_cases hc:l[i].id=id
  ·have e:at1 l id 0=i:=by rw [at1_drop rfl hi hI,List.drop_eq_getElem_cons hlt,at1,if_pos hc]
   rw [e]
   repeat' ((conv=>whnf);first|(with_reducible first|refine br_t ?_|refine br_f ?_|refine za ?_|refine zg ?_)|rw [List.length_map]|refine zp ?_|refine zq ?_|(with_reducible first|refine bc (fun h => ?_) (fun h => ?_)|refine zt ?_|refine zf ?_|refine br_i (fun h => ?_) (fun h => ?_))|refine zg ?_|refine zi ?_|refine zb ?_)
   all_goals conv=>whnf
   all_goals rfl
  ·repeat' ((conv=>whnf);first|(with_reducible first|refine br_t ?_|refine br_f ?_|refine za ?_|refine zg ?_)|rw [List.length_map]|refine zp ?_|refine zq ?_|(with_reducible first|refine bc (fun h => ?_) (fun h => ?_)|refine zt ?_|refine zf ?_|refine br_i (fun h => ?_) (fun h => ?_))|refine zg ?_|refine zi ?_|refine zb ?_)
   all_goals conv=>whnf
   refine ⟨i+1,⟨by omega,fun k hk hki => ?_⟩,?_,by omega⟩
   ·rcases Nat.lt_or_ge k i with h1|h1
    ·exact hI k hk h1
    ·have:k=i:=by omega
     subst this;exact hc
   ·(conv=>whnf);exact zent
 ·have e:at1 l id 0 = -1:=by rw [at1_drop rfl hi hI,List.drop_eq_nil_of_le hge,at1]
  rw [e]
  repeat' ((conv=>whnf);first|(with_reducible first|refine br_t ?_|refine br_f ?_|refine za ?_|refine zg ?_)|rw [List.length_map]|refine zp ?_|refine zq ?_|(with_reducible first|refine bc (fun h => ?_) (fun h => ?_)|refine zt ?_|refine zf ?_|refine br_i (fun h => ?_) (fun h => ?_))|refine zg ?_|refine zi ?_|refine zb ?_)
  all_goals conv=>whnf
  all_goals rfl
def great (l:List Pt):Bool:=decide (16<l.length∧l.length<64∨70<l.length)
theorem rfGreat_fn (l:List Pt):FnOK Tryz.prog 30 [fld l] (.c (.one (bol (great l)))):=by
 refine fn_ok (by kernel_rfl) ty_ok Tryz.func30 rfl (fun _ _=>Tryz.call30 _ _) rfl ?_
 intro hw
 simp only [WDCs,WDC,WDs] at hw
 obtain ⟨w1,w2⟩:=wd_pts hw.1.1
 unfold great
 repeat' ((conv=>whnf);first|(with_reducible first|refine br_t ?_|refine br_f ?_|refine za ?_|refine zg ?_)|rw [List.length_map]|refine zp ?_|refine zq ?_|(with_reducible first|refine bc (fun h => ?_) (fun h => ?_)|refine zt ?_|refine zf ?_|refine br_i (fun h => ?_) (fun h => ?_))|refine zg ?_|refine zi ?_|refine zb ?_)
 all_goals conv=>whnf
 all_goals
  refine r_bool ?_
  first
  | rfl
  | (simp only [decide_eq_decide,Bool.true_eq,Bool.false_eq,decide_eq_true_eq,decide_eq_false_iff_not];omega)
  | (rw [eq_comm];simp only [decide_eq_decide,decide_eq_true_eq,decide_eq_false_iff_not];omega)
end Go.Proofs.YtddbmpbihpkabaaGreat
