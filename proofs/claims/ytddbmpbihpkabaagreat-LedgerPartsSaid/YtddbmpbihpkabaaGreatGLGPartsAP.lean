import Derived.Test.YtddbmpbihpkabaaGreatGLGPartsAO
import Derived.Test.YtddbmpbihpkabaaGreatGLGPartsAL
set_option linter.all false
namespace Go.Proofs.YtddbmpbihpkabaaGreat
open Go.RowKit Go.Sort
theorem tdiv_sign (n:Int) (g:Nat) (h:(g:Int) ∣ n):decide (n.tdiv g<0)=decide (n<0)∨g=0:=by
 rcases Nat.eq_zero_or_pos g with hg|hg
 ·exact .inr hg
 ·left
  obtain ⟨c,rfl⟩:=h
  rw [Int.mul_tdiv_cancel_left _ (by omega)]
  have hpos:(0:Int)<g:=by omega
  rw [decide_eq_decide]
  constructor
  ·intro h';exact Int.mul_neg_of_pos_of_neg hpos h'
  ·intro h'
   rcases (show c<0∨0≤c by omega) with h2|h2
   ·exact h2
   ·have:=Int.mul_nonneg (Int.le_of_lt hpos) h2;omega
theorem mulR_alt (p:Int) (q:Nat) (r:Int) (t:Nat) (g h P R:Nat) (hg:g=Nat.gcd p.natAbs t) (hh:h=Nat.gcd r.natAbs q) (g0:0<g) (h0:0<h) (hP:P=p.natAbs / g) (hR:R=r.natAbs / h) (s:Bool)
  (hs:p≠0→r≠0→s=(!(decide (p<0) == decide (r<0)))) :
  mulR p q r t=buildN s (P*R) (q / h*(t / g)):=by
 unfold mulR
 have d1:(g:Int) ∣ p:=by rw [hg,← Int.dvd_natAbs,Int.ofNat_dvd];exact Nat.gcd_dvd_left _ _
 have d2:(h:Int) ∣ r:=by rw [hh,← Int.dvd_natAbs,Int.ofNat_dvd];exact Nat.gcd_dvd_left _ _
 have n1:(p.tdiv g).natAbs=p.natAbs / g:=Int.natAbs_tdiv p g
 have n2:(r.tdiv h).natAbs=r.natAbs / h:=Int.natAbs_tdiv r h
 rw [Nat.gcd_comm t,Nat.gcd_comm q,← hg,← hh,n1,n2,← hP,← hR]
 rcases tdiv_sign p g d1 with e1|e1
 ·rcases tdiv_sign r h d2 with e2|e2
  ·rw [e1,e2]
   by_cases hp:p=0
   ·subst hp
    have:P=0:=by rw [hP];simp
    rw [this,Nat.zero_mul]
    exact buildN_zero _ _ _
   ·by_cases hr:r=0
    ·subst hr
     have:R=0:=by rw [hR];simp
     rw [this,Nat.mul_zero]
     exact buildN_zero _ _ _
    ·rw [hs hp hr]
  ·omega
 ·omega
set_option maxHeartbeats 8000000 in
theorem rmul_valid (p r:Int) (q t:Nat) (w:World) (p0 : -9223372036854775807≤p) (p1:p≤9223372036854775807) (r0 : -9223372036854775807≤r) (r1:r≤9223372036854775807)
  (q0:0<q) (q1:q≤9223372036854775807) (t0:0<t) (t1:t≤9223372036854775807) (hv:bth p q r t=0) :
  Calls Tryz.prog 131 #[.agg #[.int .i64 p,.int .i64 q],.agg #[.int .i64 r,.int .i64 t]] w fun e w' =>
   e=.returned (.tuple #[.agg #[.int .i64 (mulR p q r t).1,.int .i64 (mulR p q r t).2.1],.int .i64 (mulR p q r t).2.2])∧Below w.heap.size w w':=by
 have HB:=rboth_any p q r t
 rw [hv] at HB
 have HBB:=Lib.hid HB
 clear HB hv
 have g0:0<Nat.gcd p.natAbs t:=Nat.gcd_pos_of_pos_right _ t0
 have h0:0<Nat.gcd r.natAbs q:=Nat.gcd_pos_of_pos_right _ q0
 obtain ⟨m,hm⟩:∃ m,m=p.natAbs:=⟨_,rfl⟩
 obtain ⟨n,hn⟩:∃ n,n=r.natAbs:=⟨_,rfl⟩
 have SP:=fun w=>rsize_any p w
 have SR:=fun w=>rsize_any r w
 have hmb:m≤9223372036854775807:=by omega
 have hnb:n≤9223372036854775807:=by omega
 have RW:=fun (g h P R:Nat) (hg:g=Nat.gcd m t) (hh:h=Nat.gcd n q) (g0:0<g) (h0:0<h) (hP:P=m / g) (hR:R=n / h) (s:Bool)=>mulR_alt p q r t g h P R (by rw [hg,hm]) (by rw [hh,hn]) g0 h0 (by rw [hP,hm]) (by rw [hR,hn]) s
 rw [← hm] at SP g0
 rw [← hn] at SR h0
 have SPH:=Lib.hid SP
 have SRH:=Lib.hid SR
 have HG:=fun w=>rcommon_any m t w
 have HH:=fun w=>rcommon_any n q w
 obtain ⟨g,hg⟩:∃ g,g=Nat.gcd m t:=⟨_,rfl⟩
 obtain ⟨h,hh⟩:∃ h,h=Nat.gcd n q:=⟨_,rfl⟩
 have RW2:=RW g h
 rw [← hg] at g0 HG
 rw [← hh] at h0 HH
 have HGG:=Lib.hid HG
 have HHH:=Lib.hid HH
 have e1:=Nat.div_le_self m g
 have e2:=Nat.div_le_self n h
 have e3:=Nat.div_le_self q h
 have e4:=Nat.div_le_self t g
 have X1:(m:Int) / (g:Int)=((m / g:Nat):Int):=rfl
 have X2:(n:Int) / (h:Int)=((n / h:Nat):Int):=rfl
 have X3:(q:Int) / (h:Int)=((q / h:Nat):Int):=rfl
 have X4:(t:Int) / (g:Int)=((t / g:Nat):Int):=rfl
 obtain ⟨P,hP⟩:∃ P,P=m / g:=⟨_,rfl⟩
 obtain ⟨R,hR⟩:∃ R,R=n / h:=⟨_,rfl⟩
 have RW3:=RW2 P R hg hh g0 h0 hP hR
 obtain ⟨Q,hQ⟩:∃ Q,Q=q / h:=⟨_,rfl⟩
 obtain ⟨T,hT⟩:∃ T,T=t / g:=⟨_,rfl⟩
 rw [← hQ,← hT] at RW3
 rw [← hP] at e1 X1
 rw [← hR] at e2 X2
 rw [← hQ] at e3 X3
 rw [← hT] at e4 X4
 obtain ⟨a1,b1,ha⟩:=two_mk (P*R)
 obtain ⟨a2,b2,hb⟩:=two_mk (Q*T)
 have M1:=Lib.hid (rproduct_any P R a1 b1 ha)
 have M2:=Lib.hid (rproduct_any Q T a2 b2 hb)
 have B1:=fun s=>Lib.hid (rmade_two s false false a1 b1 a2 b2 (P*R) (Q*T) ha hb)
 have gz:((g:Int) == 0)=false:=by simp;omega
 have hz:((h:Int) == 0)=false:=by simp;omega
 obtain ⟨o,ho⟩:∃ o,o=mulR p q r t:=⟨_,rfl⟩
 rw [← ho] at RW3 ⊢
 clear ho hP hR hQ hT ha hb HG HH RW RW2 SP SR hg hh hm hn
 cases c1:decide (p<0)<;>cases c2:decide (r<0)<;>cases c3:(p != 0)<;>cases c4:(r != 0)
 all_goals first
 | (exfalso;simp at c1 c3;omega)
 | (exfalso;simp at c2 c4;omega)
 | skip
 ·have RW4:=RW3 false (fun hp hr=>by first|(rw [c1,c2];rfl)|(exfalso;exact hp (by simpa using c3))|(exfalso;exact hr (by simpa using c4)))
  have B2:=B1 false
  rw [← RW4] at B2
  clear RW3 RW4 B1
  go_enter Tryz.func131,Tryz.ntmps131
  go_wp2_with (first|(go_at_call 158;(with_reducible refine cmono ?_ (HBB.out _ ?_ ?_ ?_ ?_ ?_ ?_ ?_ ?_));rotate_left;omega;omega;omega;omega;omega;omega;omega;omega;rintro e w' ⟨rfl,hbc0⟩;obtain ⟨⟨dc0,osc0⟩,rfl⟩:=regrown_of_below hbc0;clear hbc0)|(go_at_call 138;(with_reducible refine cmono ?_ (SPH.out _ ?_ ?_));rotate_left;omega;omega;rintro e w' ⟨rfl,hbc1⟩;obtain ⟨⟨dc1,osc1⟩,rfl⟩:=regrown_of_below hbc1;clear hbc1)|(go_at_call 138;(with_reducible refine cmono ?_ (SRH.out _ ?_ ?_));rotate_left;omega;omega;rintro e w' ⟨rfl,hbc2⟩;obtain ⟨⟨dc2,osc2⟩,rfl⟩:=regrown_of_below hbc2;clear hbc2)|(go_at_call 137;(with_reducible refine cmono ?_ (HGG.out _));rotate_left;rintro e w' ⟨rfl,hbc3⟩;obtain ⟨⟨dc3,osc3⟩,rfl⟩:=regrown_of_below hbc3;clear hbc3)|(go_at_call 137;(with_reducible refine cmono ?_ (HHH.out _));rotate_left;rintro e w' ⟨rfl,hbc4⟩;obtain ⟨⟨dc4,osc4⟩,rfl⟩:=regrown_of_below hbc4;clear hbc4)|(go_at_call 154;(with_reducible refine cmono ?_ (M1.out _ ?_ ?_));rotate_left;omega;omega;rintro e w' ⟨rfl,hbc5⟩;obtain ⟨⟨dc5,osc5⟩,rfl⟩:=regrown_of_below hbc5;clear hbc5)|(go_at_call 154;(with_reducible refine cmono ?_ (M2.out _ ?_ ?_));rotate_left;omega;omega;rintro e w' ⟨rfl,hbc6⟩;obtain ⟨⟨dc6,osc6⟩,rfl⟩:=regrown_of_below hbc6;clear hbc6)|(go_at_call 159;(with_reducible refine cmono ?_ (B2.out _));rotate_left;rintro e w' ⟨rfl,hbc7⟩;obtain ⟨⟨dc7,osc7⟩,rfl⟩:=regrown_of_below hbc7;clear hbc7)|((with_reducible refine wp_region_quiet_below ?_ ?_ ?_);kernel_rfl;kernel_rfl;(repeat (go_big_quiet_step (first|(go_at_call 158;(with_reducible refine Calls.regrown_of (HBB.out _ ?_ ?_ ?_ ?_ ?_ ?_ ?_ ?_));omega;omega;omega;omega;omega;omega;omega;omega)|(go_at_call 138;(with_reducible refine Calls.regrown_of (SPH.out _ ?_ ?_));omega;omega)|(go_at_call 138;(with_reducible refine Calls.regrown_of (SRH.out _ ?_ ?_));omega;omega)|(go_at_call 137;(with_reducible refine Calls.regrown_of (HGG.out _)))|(go_at_call 137;(with_reducible refine Calls.regrown_of (HHH.out _)))|(go_at_call 154;(with_reducible refine Calls.regrown_of (M1.out _ ?_ ?_));omega;omega)|(go_at_call 154;(with_reducible refine Calls.regrown_of (M2.out _ ?_ ?_));omega;omega)|(go_at_call 159;(with_reducible refine Calls.regrown_of (B2.out _))))));refine wpQuiet_nil ?_;intro _ hw';obtain ⟨⟨dq,osq⟩,hw''⟩:=hw';subst hw'')|((with_reducible refine wp_region_tail_below 42 ?_ ?_ ?_);kernel_rfl;kernel_rfl;simp only [List.take_succ_cons,List.take_zero,List.drop_succ_cons,List.drop_zero];(repeat (go_big_quiet_step (first|(go_at_call 158;(with_reducible refine Calls.regrown_of (HBB.out _ ?_ ?_ ?_ ?_ ?_ ?_ ?_ ?_));omega;omega;omega;omega;omega;omega;omega;omega)|(go_at_call 138;(with_reducible refine Calls.regrown_of (SPH.out _ ?_ ?_));omega;omega)|(go_at_call 138;(with_reducible refine Calls.regrown_of (SRH.out _ ?_ ?_));omega;omega)|(go_at_call 137;(with_reducible refine Calls.regrown_of (HGG.out _)))|(go_at_call 137;(with_reducible refine Calls.regrown_of (HHH.out _)))|(go_at_call 154;(with_reducible refine Calls.regrown_of (M1.out _ ?_ ?_));omega;omega)|(go_at_call 154;(with_reducible refine Calls.regrown_of (M2.out _ ?_ ?_));omega;omega)|(go_at_call 159;(with_reducible refine Calls.regrown_of (B2.out _))))));refine wpQuiet_nil ?_;intro _ hw';obtain ⟨⟨dq,osq⟩,hw''⟩:=hw';subst hw''))
  refine bodyPost_ret (v:=.tuple #[.agg #[.int .i64 o.1,.int .i64 o.2.1],.int .i64 o.2.2]) (by simp [results,Tryz.results131,go_sem]) rfl ⟨rfl,(by repeat (first|exact Below.refl _ _|refine below_reg ?_ _ _|refine below_alloc ?_ _|exact below_drewN ?_ _|assumption))⟩
 ·have RW4:=RW3 false (fun hp hr=>by first|(rw [c1,c2];rfl)|(exfalso;exact hp (by simpa using c3))|(exfalso;exact hr (by simpa using c4)))
  have B2:=B1 false
  rw [← RW4] at B2
  clear RW3 RW4 B1
  go_enter Tryz.func131,Tryz.ntmps131
  go_wp2_with (first|(go_at_call 158;(with_reducible refine cmono ?_ (HBB.out _ ?_ ?_ ?_ ?_ ?_ ?_ ?_ ?_));rotate_left;omega;omega;omega;omega;omega;omega;omega;omega;rintro e w' ⟨rfl,hbc0⟩;obtain ⟨⟨dc0,osc0⟩,rfl⟩:=regrown_of_below hbc0;clear hbc0)|(go_at_call 138;(with_reducible refine cmono ?_ (SPH.out _ ?_ ?_));rotate_left;omega;omega;rintro e w' ⟨rfl,hbc1⟩;obtain ⟨⟨dc1,osc1⟩,rfl⟩:=regrown_of_below hbc1;clear hbc1)|(go_at_call 138;(with_reducible refine cmono ?_ (SRH.out _ ?_ ?_));rotate_left;omega;omega;rintro e w' ⟨rfl,hbc2⟩;obtain ⟨⟨dc2,osc2⟩,rfl⟩:=regrown_of_below hbc2;clear hbc2)|(go_at_call 137;(with_reducible refine cmono ?_ (HGG.out _));rotate_left;rintro e w' ⟨rfl,hbc3⟩;obtain ⟨⟨dc3,osc3⟩,rfl⟩:=regrown_of_below hbc3;clear hbc3)|(go_at_call 137;(with_reducible refine cmono ?_ (HHH.out _));rotate_left;rintro e w' ⟨rfl,hbc4⟩;obtain ⟨⟨dc4,osc4⟩,rfl⟩:=regrown_of_below hbc4;clear hbc4)|(go_at_call 154;(with_reducible refine cmono ?_ (M1.out _ ?_ ?_));rotate_left;omega;omega;rintro e w' ⟨rfl,hbc5⟩;obtain ⟨⟨dc5,osc5⟩,rfl⟩:=regrown_of_below hbc5;clear hbc5)|(go_at_call 154;(with_reducible refine cmono ?_ (M2.out _ ?_ ?_));rotate_left;omega;omega;rintro e w' ⟨rfl,hbc6⟩;obtain ⟨⟨dc6,osc6⟩,rfl⟩:=regrown_of_below hbc6;clear hbc6)|(go_at_call 159;(with_reducible refine cmono ?_ (B2.out _));rotate_left;rintro e w' ⟨rfl,hbc7⟩;obtain ⟨⟨dc7,osc7⟩,rfl⟩:=regrown_of_below hbc7;clear hbc7)|((with_reducible refine wp_region_quiet_below ?_ ?_ ?_);kernel_rfl;kernel_rfl;(repeat (go_big_quiet_step (first|(go_at_call 158;(with_reducible refine Calls.regrown_of (HBB.out _ ?_ ?_ ?_ ?_ ?_ ?_ ?_ ?_));omega;omega;omega;omega;omega;omega;omega;omega)|(go_at_call 138;(with_reducible refine Calls.regrown_of (SPH.out _ ?_ ?_));omega;omega)|(go_at_call 138;(with_reducible refine Calls.regrown_of (SRH.out _ ?_ ?_));omega;omega)|(go_at_call 137;(with_reducible refine Calls.regrown_of (HGG.out _)))|(go_at_call 137;(with_reducible refine Calls.regrown_of (HHH.out _)))|(go_at_call 154;(with_reducible refine Calls.regrown_of (M1.out _ ?_ ?_));omega;omega)|(go_at_call 154;(with_reducible refine Calls.regrown_of (M2.out _ ?_ ?_));omega;omega)|(go_at_call 159;(with_reducible refine Calls.regrown_of (B2.out _))))));refine wpQuiet_nil ?_;intro _ hw';obtain ⟨⟨dq,osq⟩,hw''⟩:=hw';subst hw'')|((with_reducible refine wp_region_tail_below 42 ?_ ?_ ?_);kernel_rfl;kernel_rfl;simp only [List.take_succ_cons,List.take_zero,List.drop_succ_cons,List.drop_zero];(repeat (go_big_quiet_step (first|(go_at_call 158;(with_reducible refine Calls.regrown_of (HBB.out _ ?_ ?_ ?_ ?_ ?_ ?_ ?_ ?_));omega;omega;omega;omega;omega;omega;omega;omega)|(go_at_call 138;(with_reducible refine Calls.regrown_of (SPH.out _ ?_ ?_));omega;omega)|(go_at_call 138;(with_reducible refine Calls.regrown_of (SRH.out _ ?_ ?_));omega;omega)|(go_at_call 137;(with_reducible refine Calls.regrown_of (HGG.out _)))|(go_at_call 137;(with_reducible refine Calls.regrown_of (HHH.out _)))|(go_at_call 154;(with_reducible refine Calls.regrown_of (M1.out _ ?_ ?_));omega;omega)|(go_at_call 154;(with_reducible refine Calls.regrown_of (M2.out _ ?_ ?_));omega;omega)|(go_at_call 159;(with_reducible refine Calls.regrown_of (B2.out _))))));refine wpQuiet_nil ?_;intro _ hw';obtain ⟨⟨dq,osq⟩,hw''⟩:=hw';subst hw''))
  refine bodyPost_ret (v:=.tuple #[.agg #[.int .i64 o.1,.int .i64 o.2.1],.int .i64 o.2.2]) (by simp [results,Tryz.results131,go_sem]) rfl ⟨rfl,(by repeat (first|exact Below.refl _ _|refine below_reg ?_ _ _|refine below_alloc ?_ _|exact below_drewN ?_ _|assumption))⟩
 ·have RW4:=RW3 false (fun hp hr=>by first|(rw [c1,c2];rfl)|(exfalso;exact hp (by simpa using c3))|(exfalso;exact hr (by simpa using c4)))
  have B2:=B1 false
  rw [← RW4] at B2
  clear RW3 RW4 B1
  go_enter Tryz.func131,Tryz.ntmps131
  go_wp2_with (first|(go_at_call 158;(with_reducible refine cmono ?_ (HBB.out _ ?_ ?_ ?_ ?_ ?_ ?_ ?_ ?_));rotate_left;omega;omega;omega;omega;omega;omega;omega;omega;rintro e w' ⟨rfl,hbc0⟩;obtain ⟨⟨dc0,osc0⟩,rfl⟩:=regrown_of_below hbc0;clear hbc0)|(go_at_call 138;(with_reducible refine cmono ?_ (SPH.out _ ?_ ?_));rotate_left;omega;omega;rintro e w' ⟨rfl,hbc1⟩;obtain ⟨⟨dc1,osc1⟩,rfl⟩:=regrown_of_below hbc1;clear hbc1)|(go_at_call 138;(with_reducible refine cmono ?_ (SRH.out _ ?_ ?_));rotate_left;omega;omega;rintro e w' ⟨rfl,hbc2⟩;obtain ⟨⟨dc2,osc2⟩,rfl⟩:=regrown_of_below hbc2;clear hbc2)|(go_at_call 137;(with_reducible refine cmono ?_ (HGG.out _));rotate_left;rintro e w' ⟨rfl,hbc3⟩;obtain ⟨⟨dc3,osc3⟩,rfl⟩:=regrown_of_below hbc3;clear hbc3)|(go_at_call 137;(with_reducible refine cmono ?_ (HHH.out _));rotate_left;rintro e w' ⟨rfl,hbc4⟩;obtain ⟨⟨dc4,osc4⟩,rfl⟩:=regrown_of_below hbc4;clear hbc4)|(go_at_call 154;(with_reducible refine cmono ?_ (M1.out _ ?_ ?_));rotate_left;omega;omega;rintro e w' ⟨rfl,hbc5⟩;obtain ⟨⟨dc5,osc5⟩,rfl⟩:=regrown_of_below hbc5;clear hbc5)|(go_at_call 154;(with_reducible refine cmono ?_ (M2.out _ ?_ ?_));rotate_left;omega;omega;rintro e w' ⟨rfl,hbc6⟩;obtain ⟨⟨dc6,osc6⟩,rfl⟩:=regrown_of_below hbc6;clear hbc6)|(go_at_call 159;(with_reducible refine cmono ?_ (B2.out _));rotate_left;rintro e w' ⟨rfl,hbc7⟩;obtain ⟨⟨dc7,osc7⟩,rfl⟩:=regrown_of_below hbc7;clear hbc7)|((with_reducible refine wp_region_quiet_below ?_ ?_ ?_);kernel_rfl;kernel_rfl;(repeat (go_big_quiet_step (first|(go_at_call 158;(with_reducible refine Calls.regrown_of (HBB.out _ ?_ ?_ ?_ ?_ ?_ ?_ ?_ ?_));omega;omega;omega;omega;omega;omega;omega;omega)|(go_at_call 138;(with_reducible refine Calls.regrown_of (SPH.out _ ?_ ?_));omega;omega)|(go_at_call 138;(with_reducible refine Calls.regrown_of (SRH.out _ ?_ ?_));omega;omega)|(go_at_call 137;(with_reducible refine Calls.regrown_of (HGG.out _)))|(go_at_call 137;(with_reducible refine Calls.regrown_of (HHH.out _)))|(go_at_call 154;(with_reducible refine Calls.regrown_of (M1.out _ ?_ ?_));omega;omega)|(go_at_call 154;(with_reducible refine Calls.regrown_of (M2.out _ ?_ ?_));omega;omega)|(go_at_call 159;(with_reducible refine Calls.regrown_of (B2.out _))))));refine wpQuiet_nil ?_;intro _ hw';obtain ⟨⟨dq,osq⟩,hw''⟩:=hw';subst hw'')|((with_reducible refine wp_region_tail_below 42 ?_ ?_ ?_);kernel_rfl;kernel_rfl;simp only [List.take_succ_cons,List.take_zero,List.drop_succ_cons,List.drop_zero];(repeat (go_big_quiet_step (first|(go_at_call 158;(with_reducible refine Calls.regrown_of (HBB.out _ ?_ ?_ ?_ ?_ ?_ ?_ ?_ ?_));omega;omega;omega;omega;omega;omega;omega;omega)|(go_at_call 138;(with_reducible refine Calls.regrown_of (SPH.out _ ?_ ?_));omega;omega)|(go_at_call 138;(with_reducible refine Calls.regrown_of (SRH.out _ ?_ ?_));omega;omega)|(go_at_call 137;(with_reducible refine Calls.regrown_of (HGG.out _)))|(go_at_call 137;(with_reducible refine Calls.regrown_of (HHH.out _)))|(go_at_call 154;(with_reducible refine Calls.regrown_of (M1.out _ ?_ ?_));omega;omega)|(go_at_call 154;(with_reducible refine Calls.regrown_of (M2.out _ ?_ ?_));omega;omega)|(go_at_call 159;(with_reducible refine Calls.regrown_of (B2.out _))))));refine wpQuiet_nil ?_;intro _ hw';obtain ⟨⟨dq,osq⟩,hw''⟩:=hw';subst hw''))
  refine bodyPost_ret (v:=.tuple #[.agg #[.int .i64 o.1,.int .i64 o.2.1],.int .i64 o.2.2]) (by simp [results,Tryz.results131,go_sem]) rfl ⟨rfl,(by repeat (first|exact Below.refl _ _|refine below_reg ?_ _ _|refine below_alloc ?_ _|exact below_drewN ?_ _|assumption))⟩
 ·have RW4:=RW3 false (fun hp hr=>by first|(rw [c1,c2];rfl)|(exfalso;exact hp (by simpa using c3))|(exfalso;exact hr (by simpa using c4)))
  have B2:=B1 false
  rw [← RW4] at B2
  clear RW3 RW4 B1
  go_enter Tryz.func131,Tryz.ntmps131
  go_wp2_with (first|(go_at_call 158;(with_reducible refine cmono ?_ (HBB.out _ ?_ ?_ ?_ ?_ ?_ ?_ ?_ ?_));rotate_left;omega;omega;omega;omega;omega;omega;omega;omega;rintro e w' ⟨rfl,hbc0⟩;obtain ⟨⟨dc0,osc0⟩,rfl⟩:=regrown_of_below hbc0;clear hbc0)|(go_at_call 138;(with_reducible refine cmono ?_ (SPH.out _ ?_ ?_));rotate_left;omega;omega;rintro e w' ⟨rfl,hbc1⟩;obtain ⟨⟨dc1,osc1⟩,rfl⟩:=regrown_of_below hbc1;clear hbc1)|(go_at_call 138;(with_reducible refine cmono ?_ (SRH.out _ ?_ ?_));rotate_left;omega;omega;rintro e w' ⟨rfl,hbc2⟩;obtain ⟨⟨dc2,osc2⟩,rfl⟩:=regrown_of_below hbc2;clear hbc2)|(go_at_call 137;(with_reducible refine cmono ?_ (HGG.out _));rotate_left;rintro e w' ⟨rfl,hbc3⟩;obtain ⟨⟨dc3,osc3⟩,rfl⟩:=regrown_of_below hbc3;clear hbc3)|(go_at_call 137;(with_reducible refine cmono ?_ (HHH.out _));rotate_left;rintro e w' ⟨rfl,hbc4⟩;obtain ⟨⟨dc4,osc4⟩,rfl⟩:=regrown_of_below hbc4;clear hbc4)|(go_at_call 154;(with_reducible refine cmono ?_ (M1.out _ ?_ ?_));rotate_left;omega;omega;rintro e w' ⟨rfl,hbc5⟩;obtain ⟨⟨dc5,osc5⟩,rfl⟩:=regrown_of_below hbc5;clear hbc5)|(go_at_call 154;(with_reducible refine cmono ?_ (M2.out _ ?_ ?_));rotate_left;omega;omega;rintro e w' ⟨rfl,hbc6⟩;obtain ⟨⟨dc6,osc6⟩,rfl⟩:=regrown_of_below hbc6;clear hbc6)|(go_at_call 159;(with_reducible refine cmono ?_ (B2.out _));rotate_left;rintro e w' ⟨rfl,hbc7⟩;obtain ⟨⟨dc7,osc7⟩,rfl⟩:=regrown_of_below hbc7;clear hbc7)|((with_reducible refine wp_region_quiet_below ?_ ?_ ?_);kernel_rfl;kernel_rfl;(repeat (go_big_quiet_step (first|(go_at_call 158;(with_reducible refine Calls.regrown_of (HBB.out _ ?_ ?_ ?_ ?_ ?_ ?_ ?_ ?_));omega;omega;omega;omega;omega;omega;omega;omega)|(go_at_call 138;(with_reducible refine Calls.regrown_of (SPH.out _ ?_ ?_));omega;omega)|(go_at_call 138;(with_reducible refine Calls.regrown_of (SRH.out _ ?_ ?_));omega;omega)|(go_at_call 137;(with_reducible refine Calls.regrown_of (HGG.out _)))|(go_at_call 137;(with_reducible refine Calls.regrown_of (HHH.out _)))|(go_at_call 154;(with_reducible refine Calls.regrown_of (M1.out _ ?_ ?_));omega;omega)|(go_at_call 154;(with_reducible refine Calls.regrown_of (M2.out _ ?_ ?_));omega;omega)|(go_at_call 159;(with_reducible refine Calls.regrown_of (B2.out _))))));refine wpQuiet_nil ?_;intro _ hw';obtain ⟨⟨dq,osq⟩,hw''⟩:=hw';subst hw'')|((with_reducible refine wp_region_tail_below 42 ?_ ?_ ?_);kernel_rfl;kernel_rfl;simp only [List.take_succ_cons,List.take_zero,List.drop_succ_cons,List.drop_zero];(repeat (go_big_quiet_step (first|(go_at_call 158;(with_reducible refine Calls.regrown_of (HBB.out _ ?_ ?_ ?_ ?_ ?_ ?_ ?_ ?_));omega;omega;omega;omega;omega;omega;omega;omega)|(go_at_call 138;(with_reducible refine Calls.regrown_of (SPH.out _ ?_ ?_));omega;omega)|(go_at_call 138;(with_reducible refine Calls.regrown_of (SRH.out _ ?_ ?_));omega;omega)|(go_at_call 137;(with_reducible refine Calls.regrown_of (HGG.out _)))|(go_at_call 137;(with_reducible refine Calls.regrown_of (HHH.out _)))|(go_at_call 154;(with_reducible refine Calls.regrown_of (M1.out _ ?_ ?_));omega;omega)|(go_at_call 154;(with_reducible refine Calls.regrown_of (M2.out _ ?_ ?_));omega;omega)|(go_at_call 159;(with_reducible refine Calls.regrown_of (B2.out _))))));refine wpQuiet_nil ?_;intro _ hw';obtain ⟨⟨dq,osq⟩,hw''⟩:=hw';subst hw''))
  refine bodyPost_ret (v:=.tuple #[.agg #[.int .i64 o.1,.int .i64 o.2.1],.int .i64 o.2.2]) (by simp [results,Tryz.results131,go_sem]) rfl ⟨rfl,(by repeat (first|exact Below.refl _ _|refine below_reg ?_ _ _|refine below_alloc ?_ _|exact below_drewN ?_ _|assumption))⟩
 ·have RW4:=RW3 false (fun hp hr=>by first|(rw [c1,c2];rfl)|(exfalso;exact hp (by simpa using c3))|(exfalso;exact hr (by simpa using c4)))
  have B2:=B1 false
  rw [← RW4] at B2
  clear RW3 RW4 B1
  go_enter Tryz.func131,Tryz.ntmps131
  go_wp2_with (first|(go_at_call 158;(with_reducible refine cmono ?_ (HBB.out _ ?_ ?_ ?_ ?_ ?_ ?_ ?_ ?_));rotate_left;omega;omega;omega;omega;omega;omega;omega;omega;rintro e w' ⟨rfl,hbc0⟩;obtain ⟨⟨dc0,osc0⟩,rfl⟩:=regrown_of_below hbc0;clear hbc0)|(go_at_call 138;(with_reducible refine cmono ?_ (SPH.out _ ?_ ?_));rotate_left;omega;omega;rintro e w' ⟨rfl,hbc1⟩;obtain ⟨⟨dc1,osc1⟩,rfl⟩:=regrown_of_below hbc1;clear hbc1)|(go_at_call 138;(with_reducible refine cmono ?_ (SRH.out _ ?_ ?_));rotate_left;omega;omega;rintro e w' ⟨rfl,hbc2⟩;obtain ⟨⟨dc2,osc2⟩,rfl⟩:=regrown_of_below hbc2;clear hbc2)|(go_at_call 137;(with_reducible refine cmono ?_ (HGG.out _));rotate_left;rintro e w' ⟨rfl,hbc3⟩;obtain ⟨⟨dc3,osc3⟩,rfl⟩:=regrown_of_below hbc3;clear hbc3)|(go_at_call 137;(with_reducible refine cmono ?_ (HHH.out _));rotate_left;rintro e w' ⟨rfl,hbc4⟩;obtain ⟨⟨dc4,osc4⟩,rfl⟩:=regrown_of_below hbc4;clear hbc4)|(go_at_call 154;(with_reducible refine cmono ?_ (M1.out _ ?_ ?_));rotate_left;omega;omega;rintro e w' ⟨rfl,hbc5⟩;obtain ⟨⟨dc5,osc5⟩,rfl⟩:=regrown_of_below hbc5;clear hbc5)|(go_at_call 154;(with_reducible refine cmono ?_ (M2.out _ ?_ ?_));rotate_left;omega;omega;rintro e w' ⟨rfl,hbc6⟩;obtain ⟨⟨dc6,osc6⟩,rfl⟩:=regrown_of_below hbc6;clear hbc6)|(go_at_call 159;(with_reducible refine cmono ?_ (B2.out _));rotate_left;rintro e w' ⟨rfl,hbc7⟩;obtain ⟨⟨dc7,osc7⟩,rfl⟩:=regrown_of_below hbc7;clear hbc7)|((with_reducible refine wp_region_quiet_below ?_ ?_ ?_);kernel_rfl;kernel_rfl;(repeat (go_big_quiet_step (first|(go_at_call 158;(with_reducible refine Calls.regrown_of (HBB.out _ ?_ ?_ ?_ ?_ ?_ ?_ ?_ ?_));omega;omega;omega;omega;omega;omega;omega;omega)|(go_at_call 138;(with_reducible refine Calls.regrown_of (SPH.out _ ?_ ?_));omega;omega)|(go_at_call 138;(with_reducible refine Calls.regrown_of (SRH.out _ ?_ ?_));omega;omega)|(go_at_call 137;(with_reducible refine Calls.regrown_of (HGG.out _)))|(go_at_call 137;(with_reducible refine Calls.regrown_of (HHH.out _)))|(go_at_call 154;(with_reducible refine Calls.regrown_of (M1.out _ ?_ ?_));omega;omega)|(go_at_call 154;(with_reducible refine Calls.regrown_of (M2.out _ ?_ ?_));omega;omega)|(go_at_call 159;(with_reducible refine Calls.regrown_of (B2.out _))))));refine wpQuiet_nil ?_;intro _ hw';obtain ⟨⟨dq,osq⟩,hw''⟩:=hw';subst hw'')|((with_reducible refine wp_region_tail_below 42 ?_ ?_ ?_);kernel_rfl;kernel_rfl;simp only [List.take_succ_cons,List.take_zero,List.drop_succ_cons,List.drop_zero];(repeat (go_big_quiet_step (first|(go_at_call 158;(with_reducible refine Calls.regrown_of (HBB.out _ ?_ ?_ ?_ ?_ ?_ ?_ ?_ ?_));omega;omega;omega;omega;omega;omega;omega;omega)|(go_at_call 138;(with_reducible refine Calls.regrown_of (SPH.out _ ?_ ?_));omega;omega)|(go_at_call 138;(with_reducible refine Calls.regrown_of (SRH.out _ ?_ ?_));omega;omega)|(go_at_call 137;(with_reducible refine Calls.regrown_of (HGG.out _)))|(go_at_call 137;(with_reducible refine Calls.regrown_of (HHH.out _)))|(go_at_call 154;(with_reducible refine Calls.regrown_of (M1.out _ ?_ ?_));omega;omega)|(go_at_call 154;(with_reducible refine Calls.regrown_of (M2.out _ ?_ ?_));omega;omega)|(go_at_call 159;(with_reducible refine Calls.regrown_of (B2.out _))))));refine wpQuiet_nil ?_;intro _ hw';obtain ⟨⟨dq,osq⟩,hw''⟩:=hw';subst hw''))
  refine bodyPost_ret (v:=.tuple #[.agg #[.int .i64 o.1,.int .i64 o.2.1],.int .i64 o.2.2]) (by simp [results,Tryz.results131,go_sem]) rfl ⟨rfl,(by repeat (first|exact Below.refl _ _|refine below_reg ?_ _ _|refine below_alloc ?_ _|exact below_drewN ?_ _|assumption))⟩
 ·have RW4:=RW3 true (fun hp hr=>by first|(rw [c1,c2];rfl)|(exfalso;exact hp (by simpa using c3))|(exfalso;exact hr (by simpa using c4)))
  have B2:=B1 true
  rw [← RW4] at B2
  clear RW3 RW4 B1
  go_enter Tryz.func131,Tryz.ntmps131
  go_wp2_with (first|(go_at_call 158;(with_reducible refine cmono ?_ (HBB.out _ ?_ ?_ ?_ ?_ ?_ ?_ ?_ ?_));rotate_left;omega;omega;omega;omega;omega;omega;omega;omega;rintro e w' ⟨rfl,hbc0⟩;obtain ⟨⟨dc0,osc0⟩,rfl⟩:=regrown_of_below hbc0;clear hbc0)|(go_at_call 138;(with_reducible refine cmono ?_ (SPH.out _ ?_ ?_));rotate_left;omega;omega;rintro e w' ⟨rfl,hbc1⟩;obtain ⟨⟨dc1,osc1⟩,rfl⟩:=regrown_of_below hbc1;clear hbc1)|(go_at_call 138;(with_reducible refine cmono ?_ (SRH.out _ ?_ ?_));rotate_left;omega;omega;rintro e w' ⟨rfl,hbc2⟩;obtain ⟨⟨dc2,osc2⟩,rfl⟩:=regrown_of_below hbc2;clear hbc2)|(go_at_call 137;(with_reducible refine cmono ?_ (HGG.out _));rotate_left;rintro e w' ⟨rfl,hbc3⟩;obtain ⟨⟨dc3,osc3⟩,rfl⟩:=regrown_of_below hbc3;clear hbc3)|(go_at_call 137;(with_reducible refine cmono ?_ (HHH.out _));rotate_left;rintro e w' ⟨rfl,hbc4⟩;obtain ⟨⟨dc4,osc4⟩,rfl⟩:=regrown_of_below hbc4;clear hbc4)|(go_at_call 154;(with_reducible refine cmono ?_ (M1.out _ ?_ ?_));rotate_left;omega;omega;rintro e w' ⟨rfl,hbc5⟩;obtain ⟨⟨dc5,osc5⟩,rfl⟩:=regrown_of_below hbc5;clear hbc5)|(go_at_call 154;(with_reducible refine cmono ?_ (M2.out _ ?_ ?_));rotate_left;omega;omega;rintro e w' ⟨rfl,hbc6⟩;obtain ⟨⟨dc6,osc6⟩,rfl⟩:=regrown_of_below hbc6;clear hbc6)|(go_at_call 159;(with_reducible refine cmono ?_ (B2.out _));rotate_left;rintro e w' ⟨rfl,hbc7⟩;obtain ⟨⟨dc7,osc7⟩,rfl⟩:=regrown_of_below hbc7;clear hbc7)|((with_reducible refine wp_region_quiet_below ?_ ?_ ?_);kernel_rfl;kernel_rfl;(repeat (go_big_quiet_step (first|(go_at_call 158;(with_reducible refine Calls.regrown_of (HBB.out _ ?_ ?_ ?_ ?_ ?_ ?_ ?_ ?_));omega;omega;omega;omega;omega;omega;omega;omega)|(go_at_call 138;(with_reducible refine Calls.regrown_of (SPH.out _ ?_ ?_));omega;omega)|(go_at_call 138;(with_reducible refine Calls.regrown_of (SRH.out _ ?_ ?_));omega;omega)|(go_at_call 137;(with_reducible refine Calls.regrown_of (HGG.out _)))|(go_at_call 137;(with_reducible refine Calls.regrown_of (HHH.out _)))|(go_at_call 154;(with_reducible refine Calls.regrown_of (M1.out _ ?_ ?_));omega;omega)|(go_at_call 154;(with_reducible refine Calls.regrown_of (M2.out _ ?_ ?_));omega;omega)|(go_at_call 159;(with_reducible refine Calls.regrown_of (B2.out _))))));refine wpQuiet_nil ?_;intro _ hw';obtain ⟨⟨dq,osq⟩,hw''⟩:=hw';subst hw'')|((with_reducible refine wp_region_tail_below 42 ?_ ?_ ?_);kernel_rfl;kernel_rfl;simp only [List.take_succ_cons,List.take_zero,List.drop_succ_cons,List.drop_zero];(repeat (go_big_quiet_step (first|(go_at_call 158;(with_reducible refine Calls.regrown_of (HBB.out _ ?_ ?_ ?_ ?_ ?_ ?_ ?_ ?_));omega;omega;omega;omega;omega;omega;omega;omega)|(go_at_call 138;(with_reducible refine Calls.regrown_of (SPH.out _ ?_ ?_));omega;omega)|(go_at_call 138;(with_reducible refine Calls.regrown_of (SRH.out _ ?_ ?_));omega;omega)|(go_at_call 137;(with_reducible refine Calls.regrown_of (HGG.out _)))|(go_at_call 137;(with_reducible refine Calls.regrown_of (HHH.out _)))|(go_at_call 154;(with_reducible refine Calls.regrown_of (M1.out _ ?_ ?_));omega;omega)|(go_at_call 154;(with_reducible refine Calls.regrown_of (M2.out _ ?_ ?_));omega;omega)|(go_at_call 159;(with_reducible refine Calls.regrown_of (B2.out _))))));refine wpQuiet_nil ?_;intro _ hw';obtain ⟨⟨dq,osq⟩,hw''⟩:=hw';subst hw''))
  refine bodyPost_ret (v:=.tuple #[.agg #[.int .i64 o.1,.int .i64 o.2.1],.int .i64 o.2.2]) (by simp [results,Tryz.results131,go_sem]) rfl ⟨rfl,(by repeat (first|exact Below.refl _ _|refine below_reg ?_ _ _|refine below_alloc ?_ _|exact below_drewN ?_ _|assumption))⟩
 ·have RW4:=RW3 false (fun hp hr=>by first|(rw [c1,c2];rfl)|(exfalso;exact hp (by simpa using c3))|(exfalso;exact hr (by simpa using c4)))
  have B2:=B1 false
  rw [← RW4] at B2
  clear RW3 RW4 B1
  go_enter Tryz.func131,Tryz.ntmps131
  go_wp2_with (first|(go_at_call 158;(with_reducible refine cmono ?_ (HBB.out _ ?_ ?_ ?_ ?_ ?_ ?_ ?_ ?_));rotate_left;omega;omega;omega;omega;omega;omega;omega;omega;rintro e w' ⟨rfl,hbc0⟩;obtain ⟨⟨dc0,osc0⟩,rfl⟩:=regrown_of_below hbc0;clear hbc0)|(go_at_call 138;(with_reducible refine cmono ?_ (SPH.out _ ?_ ?_));rotate_left;omega;omega;rintro e w' ⟨rfl,hbc1⟩;obtain ⟨⟨dc1,osc1⟩,rfl⟩:=regrown_of_below hbc1;clear hbc1)|(go_at_call 138;(with_reducible refine cmono ?_ (SRH.out _ ?_ ?_));rotate_left;omega;omega;rintro e w' ⟨rfl,hbc2⟩;obtain ⟨⟨dc2,osc2⟩,rfl⟩:=regrown_of_below hbc2;clear hbc2)|(go_at_call 137;(with_reducible refine cmono ?_ (HGG.out _));rotate_left;rintro e w' ⟨rfl,hbc3⟩;obtain ⟨⟨dc3,osc3⟩,rfl⟩:=regrown_of_below hbc3;clear hbc3)|(go_at_call 137;(with_reducible refine cmono ?_ (HHH.out _));rotate_left;rintro e w' ⟨rfl,hbc4⟩;obtain ⟨⟨dc4,osc4⟩,rfl⟩:=regrown_of_below hbc4;clear hbc4)|(go_at_call 154;(with_reducible refine cmono ?_ (M1.out _ ?_ ?_));rotate_left;omega;omega;rintro e w' ⟨rfl,hbc5⟩;obtain ⟨⟨dc5,osc5⟩,rfl⟩:=regrown_of_below hbc5;clear hbc5)|(go_at_call 154;(with_reducible refine cmono ?_ (M2.out _ ?_ ?_));rotate_left;omega;omega;rintro e w' ⟨rfl,hbc6⟩;obtain ⟨⟨dc6,osc6⟩,rfl⟩:=regrown_of_below hbc6;clear hbc6)|(go_at_call 159;(with_reducible refine cmono ?_ (B2.out _));rotate_left;rintro e w' ⟨rfl,hbc7⟩;obtain ⟨⟨dc7,osc7⟩,rfl⟩:=regrown_of_below hbc7;clear hbc7)|((with_reducible refine wp_region_quiet_below ?_ ?_ ?_);kernel_rfl;kernel_rfl;(repeat (go_big_quiet_step (first|(go_at_call 158;(with_reducible refine Calls.regrown_of (HBB.out _ ?_ ?_ ?_ ?_ ?_ ?_ ?_ ?_));omega;omega;omega;omega;omega;omega;omega;omega)|(go_at_call 138;(with_reducible refine Calls.regrown_of (SPH.out _ ?_ ?_));omega;omega)|(go_at_call 138;(with_reducible refine Calls.regrown_of (SRH.out _ ?_ ?_));omega;omega)|(go_at_call 137;(with_reducible refine Calls.regrown_of (HGG.out _)))|(go_at_call 137;(with_reducible refine Calls.regrown_of (HHH.out _)))|(go_at_call 154;(with_reducible refine Calls.regrown_of (M1.out _ ?_ ?_));omega;omega)|(go_at_call 154;(with_reducible refine Calls.regrown_of (M2.out _ ?_ ?_));omega;omega)|(go_at_call 159;(with_reducible refine Calls.regrown_of (B2.out _))))));refine wpQuiet_nil ?_;intro _ hw';obtain ⟨⟨dq,osq⟩,hw''⟩:=hw';subst hw'')|((with_reducible refine wp_region_tail_below 42 ?_ ?_ ?_);kernel_rfl;kernel_rfl;simp only [List.take_succ_cons,List.take_zero,List.drop_succ_cons,List.drop_zero];(repeat (go_big_quiet_step (first|(go_at_call 158;(with_reducible refine Calls.regrown_of (HBB.out _ ?_ ?_ ?_ ?_ ?_ ?_ ?_ ?_));omega;omega;omega;omega;omega;omega;omega;omega)|(go_at_call 138;(with_reducible refine Calls.regrown_of (SPH.out _ ?_ ?_));omega;omega)|(go_at_call 138;(with_reducible refine Calls.regrown_of (SRH.out _ ?_ ?_));omega;omega)|(go_at_call 137;(with_reducible refine Calls.regrown_of (HGG.out _)))|(go_at_call 137;(with_reducible refine Calls.regrown_of (HHH.out _)))|(go_at_call 154;(with_reducible refine Calls.regrown_of (M1.out _ ?_ ?_));omega;omega)|(go_at_call 154;(with_reducible refine Calls.regrown_of (M2.out _ ?_ ?_));omega;omega)|(go_at_call 159;(with_reducible refine Calls.regrown_of (B2.out _))))));refine wpQuiet_nil ?_;intro _ hw';obtain ⟨⟨dq,osq⟩,hw''⟩:=hw';subst hw''))
  refine bodyPost_ret (v:=.tuple #[.agg #[.int .i64 o.1,.int .i64 o.2.1],.int .i64 o.2.2]) (by simp [results,Tryz.results131,go_sem]) rfl ⟨rfl,(by repeat (first|exact Below.refl _ _|refine below_reg ?_ _ _|refine below_alloc ?_ _|exact below_drewN ?_ _|assumption))⟩
 ·have RW4:=RW3 true (fun hp hr=>by first|(rw [c1,c2];rfl)|(exfalso;exact hp (by simpa using c3))|(exfalso;exact hr (by simpa using c4)))
  have B2:=B1 true
  rw [← RW4] at B2
  clear RW3 RW4 B1
  go_enter Tryz.func131,Tryz.ntmps131
  go_wp2_with (first|(go_at_call 158;(with_reducible refine cmono ?_ (HBB.out _ ?_ ?_ ?_ ?_ ?_ ?_ ?_ ?_));rotate_left;omega;omega;omega;omega;omega;omega;omega;omega;rintro e w' ⟨rfl,hbc0⟩;obtain ⟨⟨dc0,osc0⟩,rfl⟩:=regrown_of_below hbc0;clear hbc0)|(go_at_call 138;(with_reducible refine cmono ?_ (SPH.out _ ?_ ?_));rotate_left;omega;omega;rintro e w' ⟨rfl,hbc1⟩;obtain ⟨⟨dc1,osc1⟩,rfl⟩:=regrown_of_below hbc1;clear hbc1)|(go_at_call 138;(with_reducible refine cmono ?_ (SRH.out _ ?_ ?_));rotate_left;omega;omega;rintro e w' ⟨rfl,hbc2⟩;obtain ⟨⟨dc2,osc2⟩,rfl⟩:=regrown_of_below hbc2;clear hbc2)|(go_at_call 137;(with_reducible refine cmono ?_ (HGG.out _));rotate_left;rintro e w' ⟨rfl,hbc3⟩;obtain ⟨⟨dc3,osc3⟩,rfl⟩:=regrown_of_below hbc3;clear hbc3)|(go_at_call 137;(with_reducible refine cmono ?_ (HHH.out _));rotate_left;rintro e w' ⟨rfl,hbc4⟩;obtain ⟨⟨dc4,osc4⟩,rfl⟩:=regrown_of_below hbc4;clear hbc4)|(go_at_call 154;(with_reducible refine cmono ?_ (M1.out _ ?_ ?_));rotate_left;omega;omega;rintro e w' ⟨rfl,hbc5⟩;obtain ⟨⟨dc5,osc5⟩,rfl⟩:=regrown_of_below hbc5;clear hbc5)|(go_at_call 154;(with_reducible refine cmono ?_ (M2.out _ ?_ ?_));rotate_left;omega;omega;rintro e w' ⟨rfl,hbc6⟩;obtain ⟨⟨dc6,osc6⟩,rfl⟩:=regrown_of_below hbc6;clear hbc6)|(go_at_call 159;(with_reducible refine cmono ?_ (B2.out _));rotate_left;rintro e w' ⟨rfl,hbc7⟩;obtain ⟨⟨dc7,osc7⟩,rfl⟩:=regrown_of_below hbc7;clear hbc7)|((with_reducible refine wp_region_quiet_below ?_ ?_ ?_);kernel_rfl;kernel_rfl;(repeat (go_big_quiet_step (first|(go_at_call 158;(with_reducible refine Calls.regrown_of (HBB.out _ ?_ ?_ ?_ ?_ ?_ ?_ ?_ ?_));omega;omega;omega;omega;omega;omega;omega;omega)|(go_at_call 138;(with_reducible refine Calls.regrown_of (SPH.out _ ?_ ?_));omega;omega)|(go_at_call 138;(with_reducible refine Calls.regrown_of (SRH.out _ ?_ ?_));omega;omega)|(go_at_call 137;(with_reducible refine Calls.regrown_of (HGG.out _)))|(go_at_call 137;(with_reducible refine Calls.regrown_of (HHH.out _)))|(go_at_call 154;(with_reducible refine Calls.regrown_of (M1.out _ ?_ ?_));omega;omega)|(go_at_call 154;(with_reducible refine Calls.regrown_of (M2.out _ ?_ ?_));omega;omega)|(go_at_call 159;(with_reducible refine Calls.regrown_of (B2.out _))))));refine wpQuiet_nil ?_;intro _ hw';obtain ⟨⟨dq,osq⟩,hw''⟩:=hw';subst hw'')|((with_reducible refine wp_region_tail_below 42 ?_ ?_ ?_);kernel_rfl;kernel_rfl;simp only [List.take_succ_cons,List.take_zero,List.drop_succ_cons,List.drop_zero];(repeat (go_big_quiet_step (first|(go_at_call 158;(with_reducible refine Calls.regrown_of (HBB.out _ ?_ ?_ ?_ ?_ ?_ ?_ ?_ ?_));omega;omega;omega;omega;omega;omega;omega;omega)|(go_at_call 138;(with_reducible refine Calls.regrown_of (SPH.out _ ?_ ?_));omega;omega)|(go_at_call 138;(with_reducible refine Calls.regrown_of (SRH.out _ ?_ ?_));omega;omega)|(go_at_call 137;(with_reducible refine Calls.regrown_of (HGG.out _)))|(go_at_call 137;(with_reducible refine Calls.regrown_of (HHH.out _)))|(go_at_call 154;(with_reducible refine Calls.regrown_of (M1.out _ ?_ ?_));omega;omega)|(go_at_call 154;(with_reducible refine Calls.regrown_of (M2.out _ ?_ ?_));omega;omega)|(go_at_call 159;(with_reducible refine Calls.regrown_of (B2.out _))))));refine wpQuiet_nil ?_;intro _ hw';obtain ⟨⟨dq,osq⟩,hw''⟩:=hw';subst hw''))
  refine bodyPost_ret (v:=.tuple #[.agg #[.int .i64 o.1,.int .i64 o.2.1],.int .i64 o.2.2]) (by simp [results,Tryz.results131,go_sem]) rfl ⟨rfl,(by repeat (first|exact Below.refl _ _|refine below_reg ?_ _ _|refine below_alloc ?_ _|exact below_drewN ?_ _|assumption))⟩
 ·have RW4:=RW3 false (fun hp hr=>by first|(rw [c1,c2];rfl)|(exfalso;exact hp (by simpa using c3))|(exfalso;exact hr (by simpa using c4)))
  have B2:=B1 false
  rw [← RW4] at B2
  clear RW3 RW4 B1
  go_enter Tryz.func131,Tryz.ntmps131
  go_wp2_with (first|(go_at_call 158;(with_reducible refine cmono ?_ (HBB.out _ ?_ ?_ ?_ ?_ ?_ ?_ ?_ ?_));rotate_left;omega;omega;omega;omega;omega;omega;omega;omega;rintro e w' ⟨rfl,hbc0⟩;obtain ⟨⟨dc0,osc0⟩,rfl⟩:=regrown_of_below hbc0;clear hbc0)|(go_at_call 138;(with_reducible refine cmono ?_ (SPH.out _ ?_ ?_));rotate_left;omega;omega;rintro e w' ⟨rfl,hbc1⟩;obtain ⟨⟨dc1,osc1⟩,rfl⟩:=regrown_of_below hbc1;clear hbc1)|(go_at_call 138;(with_reducible refine cmono ?_ (SRH.out _ ?_ ?_));rotate_left;omega;omega;rintro e w' ⟨rfl,hbc2⟩;obtain ⟨⟨dc2,osc2⟩,rfl⟩:=regrown_of_below hbc2;clear hbc2)|(go_at_call 137;(with_reducible refine cmono ?_ (HGG.out _));rotate_left;rintro e w' ⟨rfl,hbc3⟩;obtain ⟨⟨dc3,osc3⟩,rfl⟩:=regrown_of_below hbc3;clear hbc3)|(go_at_call 137;(with_reducible refine cmono ?_ (HHH.out _));rotate_left;rintro e w' ⟨rfl,hbc4⟩;obtain ⟨⟨dc4,osc4⟩,rfl⟩:=regrown_of_below hbc4;clear hbc4)|(go_at_call 154;(with_reducible refine cmono ?_ (M1.out _ ?_ ?_));rotate_left;omega;omega;rintro e w' ⟨rfl,hbc5⟩;obtain ⟨⟨dc5,osc5⟩,rfl⟩:=regrown_of_below hbc5;clear hbc5)|(go_at_call 154;(with_reducible refine cmono ?_ (M2.out _ ?_ ?_));rotate_left;omega;omega;rintro e w' ⟨rfl,hbc6⟩;obtain ⟨⟨dc6,osc6⟩,rfl⟩:=regrown_of_below hbc6;clear hbc6)|(go_at_call 159;(with_reducible refine cmono ?_ (B2.out _));rotate_left;rintro e w' ⟨rfl,hbc7⟩;obtain ⟨⟨dc7,osc7⟩,rfl⟩:=regrown_of_below hbc7;clear hbc7)|((with_reducible refine wp_region_quiet_below ?_ ?_ ?_);kernel_rfl;kernel_rfl;(repeat (go_big_quiet_step (first|(go_at_call 158;(with_reducible refine Calls.regrown_of (HBB.out _ ?_ ?_ ?_ ?_ ?_ ?_ ?_ ?_));omega;omega;omega;omega;omega;omega;omega;omega)|(go_at_call 138;(with_reducible refine Calls.regrown_of (SPH.out _ ?_ ?_));omega;omega)|(go_at_call 138;(with_reducible refine Calls.regrown_of (SRH.out _ ?_ ?_));omega;omega)|(go_at_call 137;(with_reducible refine Calls.regrown_of (HGG.out _)))|(go_at_call 137;(with_reducible refine Calls.regrown_of (HHH.out _)))|(go_at_call 154;(with_reducible refine Calls.regrown_of (M1.out _ ?_ ?_));omega;omega)|(go_at_call 154;(with_reducible refine Calls.regrown_of (M2.out _ ?_ ?_));omega;omega)|(go_at_call 159;(with_reducible refine Calls.regrown_of (B2.out _))))));refine wpQuiet_nil ?_;intro _ hw';obtain ⟨⟨dq,osq⟩,hw''⟩:=hw';subst hw'')|((with_reducible refine wp_region_tail_below 42 ?_ ?_ ?_);kernel_rfl;kernel_rfl;simp only [List.take_succ_cons,List.take_zero,List.drop_succ_cons,List.drop_zero];(repeat (go_big_quiet_step (first|(go_at_call 158;(with_reducible refine Calls.regrown_of (HBB.out _ ?_ ?_ ?_ ?_ ?_ ?_ ?_ ?_));omega;omega;omega;omega;omega;omega;omega;omega)|(go_at_call 138;(with_reducible refine Calls.regrown_of (SPH.out _ ?_ ?_));omega;omega)|(go_at_call 138;(with_reducible refine Calls.regrown_of (SRH.out _ ?_ ?_));omega;omega)|(go_at_call 137;(with_reducible refine Calls.regrown_of (HGG.out _)))|(go_at_call 137;(with_reducible refine Calls.regrown_of (HHH.out _)))|(go_at_call 154;(with_reducible refine Calls.regrown_of (M1.out _ ?_ ?_));omega;omega)|(go_at_call 154;(with_reducible refine Calls.regrown_of (M2.out _ ?_ ?_));omega;omega)|(go_at_call 159;(with_reducible refine Calls.regrown_of (B2.out _))))));refine wpQuiet_nil ?_;intro _ hw';obtain ⟨⟨dq,osq⟩,hw''⟩:=hw';subst hw''))
  refine bodyPost_ret (v:=.tuple #[.agg #[.int .i64 o.1,.int .i64 o.2.1],.int .i64 o.2.2]) (by simp [results,Tryz.results131,go_sem]) rfl ⟨rfl,(by repeat (first|exact Below.refl _ _|refine below_reg ?_ _ _|refine below_alloc ?_ _|exact below_drewN ?_ _|assumption))⟩
theorem rmul_any (p q r t:Int) (w:World) (p0 : -9223372036854775808≤p) (p1:p≤9223372036854775807) (q0 : -9223372036854775808≤q) (q1:q≤9223372036854775807)
  (r0 : -9223372036854775808≤r) (r1:r≤9223372036854775807) (t0 : -9223372036854775808≤t) (t1:t≤9223372036854775807) :
  Calls Tryz.prog 131 #[.agg #[.int .i64 p,.int .i64 q],.agg #[.int .i64 r,.int .i64 t]] w fun e w' =>
   e=.returned (.tuple #[.agg #[.int .i64 (mulV p q r t).1,.int .i64 (mulV p q r t).2.1],.int .i64 (mulV p q r t).2.2])∧Below w.heap.size w w':=by
 unfold mulV
 rcases bth_08 p q r t with hv|hv
 ·rw [if_pos hv]
  obtain ⟨h1,h2⟩:=bth_ok hv
  obtain ⟨a1,a2,_⟩:=chk_ok h1
  obtain ⟨b1,b2,_⟩:=chk_ok h2
  obtain ⟨Q,rfl⟩:=Int.eq_ofNat_of_zero_le (show 0≤q by omega)
  obtain ⟨T,rfl⟩:=Int.eq_ofNat_of_zero_le (show 0≤t by omega)
  exact rmul_valid p r Q T w (by omega) p1 (by omega) r1 (by omega) (by omega) (by omega) (by omega) hv
 ·rw [if_neg (by omega)]
  have HB:=rboth_any p q r t
  rw [hv] at HB
  have HBB:=Lib.hid HB
  clear HB hv
  go_enter Tryz.func131,Tryz.ntmps131
  go_wp2_with (first|(go_at_call 158;(with_reducible refine cmono ?_ (HBB.out _ ?_ ?_ ?_ ?_ ?_ ?_ ?_ ?_));rotate_left;omega;omega;omega;omega;omega;omega;omega;omega;rintro e w' ⟨rfl,hbc0⟩;obtain ⟨⟨dc0,osc0⟩,rfl⟩:=regrown_of_below hbc0;clear hbc0)|((with_reducible refine wp_region_quiet_below ?_ ?_ ?_);kernel_rfl;kernel_rfl;(repeat (go_big_quiet_step (first|(go_at_call 158;(with_reducible refine Calls.regrown_of (HBB.out _ ?_ ?_ ?_ ?_ ?_ ?_ ?_ ?_));omega;omega;omega;omega;omega;omega;omega;omega))));refine wpQuiet_nil ?_;intro _ hw';obtain ⟨⟨dq,osq⟩,hw''⟩:=hw';subst hw''))
  refine bodyPost_ret (v:=.tuple #[.agg #[.int .i64 0,.int .i64 0],.int .i64 8]) (by simp [results,Tryz.results131,go_sem]) rfl ⟨rfl,(by repeat (first|exact Below.refl _ _|refine below_reg ?_ _ _|refine below_alloc ?_ _|exact below_drewN ?_ _|assumption))⟩
end Go.Proofs.YtddbmpbihpkabaaGreat

namespace Go.Proofs.YtddbmpbihpkabaaGreat
open Go.RowKit
theorem tri (a b:Rat):a<b∨a=b∨b<a:=by
 rcases Rat.le_total (a:=a) (b:=b) with h|h
 ·rcases Rat.le_iff_lt_or_eq.1 h with h|h
  ·exact .inl h
  ·exact .inr (.inl h)
 ·rcases Rat.le_iff_lt_or_eq.1 h with h|h
  ·exact .inr (.inr h)
  ·exact .inr (.inl h.symm)
theorem qv_inj {p q r t:Int} (h1:chk p q=0) (h2:chk r t=0):qv p q=qv r t↔p=r∧q=t:=by
 constructor
 ·intro h
  have e1:=qv_num h1
  have e2:=qv_den h1
  rw [h,qv_num h2] at e1
  rw [h,qv_den h2] at e2
  exact ⟨e1.symm,e2.symm⟩
 ·rintro ⟨rfl,rfl⟩;rfl
theorem outQ_cases (a:Rat):(∃ n d:Int,outQ a=(n,d,0)∧chk n d=0∧qv n d=a∧n=a.num∧d=a.den ∧ -9223372036854775807≤n∧n≤9223372036854775807∧1≤d∧d≤9223372036854775807)∨outQ a=(0,0,16):=by
 rcases outQ_err a with h|h
 ·obtain ⟨h1,h2,h3⟩:=outQ_ok h
  have:=a.den_pos
  exact .inl ⟨a.num,a.den,h1,chk_rat a h2,qv_rat a,rfl,rfl,by omega,by omega,by omega,by omega⟩
 ·exact .inr h
end Go.Proofs.YtddbmpbihpkabaaGreat

namespace Go.Proofs.YtddbmpbihpkabaaGreat
open Go.RowKit Go.Sort Sx
abbrev i64 (n:Int):D:=.v (.int .i64 n)
abbrev u64 (n:Int):D:=.v (.int .u64 n)
abbrev bol (b:Bool):D:=.v (.bool b)
theorem wd_i64 {n:Int}:WD (i64 n) ↔ -9223372036854775808≤n∧n≤9223372036854775807:=WD_v
theorem wd_u64 {n:Int}:WD (u64 n)↔0≤n∧n≤18446744073709551615:=WD_v
theorem wd_bol {b:Bool}:WD (bol b)↔True:=WD_v
theorem wd1 {n d:Int} (h:WDCs [.agg [i64 n,i64 d]]) : -9223372036854775808≤n∧n≤9223372036854775807 ∧ -9223372036854775808≤d∧d≤9223372036854775807:=by
 simp only [WDCs,WDC,WDs,wd_i64] at h;omega
theorem wd2 {n d m e:Int} (h:WDCs [.agg [i64 n,i64 d],.agg [i64 m,i64 e]]):(-9223372036854775808≤n∧n≤9223372036854775807 ∧ -9223372036854775808≤d∧d≤9223372036854775807)∧(-9223372036854775808≤m∧m≤9223372036854775807 ∧ -9223372036854775808≤e∧e≤9223372036854775807):=by
 simp only [WDCs,WDC,WDs,wd_i64] at h;omega
theorem wdii {n m:Int} (h:WDCs [.one (i64 n),.one (i64 m)]) : -9223372036854775808≤n∧n≤9223372036854775807 ∧ -9223372036854775808≤m∧m≤9223372036854775807:=by
 simp only [WDCs,WDC,WDs,wd_i64] at h;omega
theorem cmpN_rng (a b:Int) : -1≤cmpN a b∧cmpN a b≤1:=by unfold cmpN;(repeat' split)<;>omega
theorem buildN_rng (x:Bool) (m n:Nat):(-9223372036854775807≤(buildN x m n).1∧(buildN x m n).1≤9223372036854775807)∧(0≤(buildN x m n).2.1∧(buildN x m n).2.1≤9223372036854775807)∧(0≤(buildN x m n).2.2∧(buildN x m n).2.2≤16):=by
 unfold buildN;split
 ·cases x<;>simp<;>omega
 ·simp
theorem askd_rng (n d:Int):0≤askd n d∧askd n d≤8:=by
 unfold askd
 rcases chk_08 n d with h|h<;>rw [h]<;>simp<;>(try split)<;>omega
theorem addV_rng (p q r t:Int):(-9223372036854775807≤(addV p q r t).1∧(addV p q r t).1≤9223372036854775807)∧(0≤(addV p q r t).2.1∧(addV p q r t).2.1≤9223372036854775807)∧(0≤(addV p q r t).2.2∧(addV p q r t).2.2≤16):=by
 unfold addV;split
 ·unfold addR;exact buildN_rng _ _ _
 ·simp
theorem mulV_rng (p q r t:Int):(-9223372036854775807≤(mulV p q r t).1∧(mulV p q r t).1≤9223372036854775807)∧(0≤(mulV p q r t).2.1∧(mulV p q r t).2.1≤9223372036854775807)∧(0≤(mulV p q r t).2.2∧(mulV p q r t).2.2≤16):=by
 unfold mulV;split
 ·unfold mulR;exact buildN_rng _ _ _
 ·simp
theorem subV_rng (p q r t:Int):(-9223372036854775807≤(subV p q r t).1∧(subV p q r t).1≤9223372036854775807)∧(0≤(subV p q r t).2.1∧(subV p q r t).2.1≤9223372036854775807)∧(0≤(subV p q r t).2.2∧(subV p q r t).2.2≤16):=by
 unfold subV;split
 ·exact addV_rng _ _ _ _
 ·simp
theorem makeV_rng (n d:Int):(-9223372036854775807≤(makeV n d).1∧(makeV n d).1≤9223372036854775807)∧(0≤(makeV n d).2.1∧(makeV n d).2.1≤9223372036854775807)∧(0≤(makeV n d).2.2∧(makeV n d).2.2≤26):=by
 unfold makeV;split
 ·simp
 ·have:=buildN_rng (!(decide (n<0) == decide (d<0))) (n.natAbs / Nat.gcd n.natAbs d.natAbs) (d.natAbs / Nat.gcd n.natAbs d.natAbs)
  omega
abbrev rat2 (p q r t:Int):List DC:=[.agg [i64 p,i64 q],.agg [i64 r,i64 t]]
abbrev ret3 (x:Int × Int × Int):DV:=.tup [.agg [i64 x.1,i64 x.2.1],.one (i64 x.2.2)]
abbrev ret2 (x:Int × Int):DV:=.tup [.one (i64 x.1),.one (i64 x.2)]
abbrev ret1 (x:Int):DV:=.c (.one (i64 x))
theorem cmp_fn (p q r t:Int):FnOK Tryz.prog 53 (rat2 p q r t) (ret2 (cmpV p q r t)):=by
 refine fn_of_calls (fun _ _=>Tryz.call53 _ _) rfl rfl (fun h => ?_) (fun h w => ?_)
 ·simp only [WDV,WDCs,WDC,wd_i64,and_true]
  unfold cmpV
  have:=cmpN_rng (p*t) (r*q)
  split<;>simp<;>omega
 ·obtain ⟨⟨_,_,_,_⟩,_,_,_,_⟩:=wd2 h
  exact cmp_any p q r t w (by omega) (by omega) (by omega) (by omega) (by omega) (by omega) (by omega) (by omega)
theorem sub_fn (p q r t:Int):FnOK Tryz.prog 91 (rat2 p q r t) (ret3 (subV p q r t)):=by
 refine fn_of_calls (fun _ _=>Tryz.call91 _ _) rfl rfl (fun h => ?_) (fun h w => ?_)
 ·simp only [WDV,WDCs,WDC,WDs,wd_i64,and_true]
  have:=subV_rng p q r t
  omega
 ·obtain ⟨⟨_,_,_,_⟩,_,_,_,_⟩:=wd2 h
  exact sub_any p q r t w (by omega) (by omega) (by omega) (by omega) (by omega) (by omega) (by omega) (by omega)
theorem make_fn (n d:Int):FnOK Tryz.prog 144 [.one (i64 n),.one (i64 d)] (ret3 (makeV n d)):=by
 refine fn_of_calls (fun _ _=>Tryz.call144 _ _) rfl rfl (fun h => ?_) (fun h w => ?_)
 ·simp only [WDV,WDCs,WDC,WDs,wd_i64,and_true]
  have:=makeV_rng n d
  omega
 ·obtain ⟨_,_,_,_⟩:=wdii h
  exact makeV_any n d w (by omega) (by omega) (by omega) (by omega)
theorem check_fn (n d:Int):FnOK Tryz.prog 72 [.agg [i64 n,i64 d]] (ret1 (chk n d)):=by
 refine fn_of_calls (fun _ _=>Tryz.call72 _ _) rfl rfl (fun h => ?_) (fun h w => ?_)
 ·simp only [WDV,WDCs,WDC,WDs,wd_i64,and_true]
  rcases chk_08 n d with h|h<;>omega
 ·obtain ⟨_,_,_,_⟩:=wd1 h
  exact check_any n d w (by omega) (by omega) (by omega) (by omega)
theorem asked_fn (n d:Int):FnOK Tryz.prog 46 [.agg [i64 n,i64 d]] (ret1 (askd n d)):=by
 refine fn_of_calls (fun _ _=>Tryz.call46 _ _) rfl rfl (fun h => ?_) (fun h w => ?_)
 ·simp only [WDV,WDCs,WDC,WDs,wd_i64,and_true]
  have:=askd_rng n d
  omega
 ·obtain ⟨_,_,_,_⟩:=wd1 h
  exact asked_any n d w (by omega) (by omega) (by omega) (by omega)
theorem rcheck_fn (n d:Int):FnOK Tryz.prog 100 [.agg [i64 n,i64 d]] (ret1 (chk n d)):=by
 refine fn_of_calls (fun _ _=>Tryz.call100 _ _) rfl rfl (fun h => ?_) (fun h w => ?_)
 ·simp only [WDV,WDCs,WDC,WDs,wd_i64,and_true]
  rcases chk_08 n d with h|h<;>omega
 ·obtain ⟨_,_,_,_⟩:=wd1 h
  exact rcheck_any n d w (by omega) (by omega) (by omega) (by omega)
theorem rasked_fn (n d:Int):FnOK Tryz.prog 66 [.agg [i64 n,i64 d]] (ret1 (askd n d)):=by
 refine fn_of_calls (fun _ _=>Tryz.call66 _ _) rfl rfl (fun h => ?_) (fun h w => ?_)
 ·simp only [WDV,WDCs,WDC,WDs,wd_i64,and_true]
  have:=askd_rng n d
  omega
 ·obtain ⟨_,_,_,_⟩:=wd1 h
  exact rasked_any n d w (by omega) (by omega) (by omega) (by omega)
theorem rcompare_fn (p q r t:Int):FnOK Tryz.prog 92 (rat2 p q r t) (ret1 (cmpN (p*t) (r*q))):=by
 refine fn_of_calls (fun _ _=>Tryz.call92 _ _) rfl rfl (fun h => ?_) (fun h w => ?_)
 ·simp only [WDV,WDCs,WDC,WDs,wd_i64,and_true]
  have:=cmpN_rng (p*t) (r*q)
  omega
 ·obtain ⟨⟨_,_,_,_⟩,_,_,_,_⟩:=wd2 h
  exact rcompare_any p q r t w (by omega) (by omega) (by omega) (by omega) (by omega) (by omega) (by omega) (by omega)
end Go.Proofs.YtddbmpbihpkabaaGreat
