import Derived.Test.YtddbmpbihpkabaaGreatGLGPartsAN
import Derived.Test.YtddbmpbihpkabaaGreatGLGPartsAM
set_option linter.all false
namespace Go.Proofs.YtddbmpbihpkabaaGreat
open Go.RowKit Go.Sort
theorem cmpN_abs (x y:Int):(cmpN x 0≠cmpN y 0→(cmpN x 0<cmpN y 0→cmpN x y = -1)∧(¬ cmpN x 0<cmpN y 0→cmpN x y=1)) ∧
  (cmpN x 0=cmpN y 0→(cmpN x 0<0→cmpN x y=cmpN (y.natAbs:Int) (x.natAbs:Int))∧(¬ cmpN x 0<0→cmpN x y=cmpN (x.natAbs:Int) (y.natAbs:Int))):=by
 have h1:cmpN x 0=if x<0 then -1 else if 0<x then 1 else 0:=rfl
 have h2:cmpN y 0=if y<0 then -1 else if 0<y then 1 else 0:=rfl
 rw [h1,h2]
 unfold cmpN
 refine ⟨fun h=>⟨fun h => ?_,fun h => ?_⟩,fun h=>⟨fun h => ?_,fun h => ?_⟩⟩
 all_goals
  revert h
  (repeat' split)<;>intros<;>omega
set_option maxHeartbeats 4000000 in
theorem rcompare_any (p q r t:Int) (w:World) (p0 : -9223372036854775808≤p) (p1:p≤9223372036854775807) (q0 : -9223372036854775808≤q) (q1:q≤9223372036854775807)
  (r0 : -9223372036854775808≤r) (r1:r≤9223372036854775807) (t0 : -9223372036854775808≤t) (t1:t≤9223372036854775807) :
  Calls Tryz.prog 92 #[.agg #[.int .i64 p,.int .i64 q],.agg #[.int .i64 r,.int .i64 t]] w fun e w'=>e=.returned (.int .i64 (cmpN (p*t) (r*q)))∧Below w.heap.size w w':=by
 obtain ⟨a,b,ha⟩:=two_mk (p.natAbs*t.natAbs)
 obtain ⟨c,d,hc⟩:=two_mk (r.natAbs*q.natAbs)
 have P1:=rProduct_any p t a b ha
 have P2:=rProduct_any r q c d hc
 rw [← Int.natAbs_mul] at ha hc
 obtain ⟨x,hx⟩:∃ x,x=p*t:=⟨_,rfl⟩
 obtain ⟨y,hy⟩:∃ y,y=r*q:=⟨_,rfl⟩
 rw [← hx] at ha P1 ⊢
 rw [← hy] at hc P2 ⊢
 have S1:=rSign_any x a b ha
 have S2:=rSign_any y c d hc
 have L1:=rless_any (decide (x<0)) (decide (y<0)) a b c d _ _ ha hc
 have L2:=rless_any (decide (y<0)) (decide (x<0)) c d a b _ _ hc ha
 have HC:=Lib.hid (cmpN_abs x y)
 obtain ⟨s,hs⟩:∃ s,s=cmpN x 0:=⟨_,rfl⟩
 obtain ⟨u,hu⟩:∃ u,u=cmpN y 0:=⟨_,rfl⟩
 obtain ⟨k,hk⟩:∃ k,k=cmpN (x.natAbs:Int) (y.natAbs:Int):=⟨_,rfl⟩
 obtain ⟨l,hl⟩:∃ l,l=cmpN (y.natAbs:Int) (x.natAbs:Int):=⟨_,rfl⟩
 rw [← hs,← hu,← hk,← hl] at HC
 rw [← hs] at S1
 rw [← hu] at S2
 rw [← hk] at L1
 rw [← hl] at L2
 have P1H:=Lib.hid P1
 have P2H:=Lib.hid P2
 have S1H:=Lib.hid S1
 have S2H:=Lib.hid S2
 have L1H:=Lib.hid L1
 have L2H:=Lib.hid L2
 clear P1 P2 S1 S2 L1 L2 hs hu hk hl ha hc
 obtain ⟨X,hX⟩:∃ X,X=decide (x<0):=⟨_,rfl⟩
 obtain ⟨Y,hY⟩:∃ Y,Y=decide (y<0):=⟨_,rfl⟩
 rw [← hX] at P1H S1H L1H L2H
 rw [← hY] at P2H S2H L1H L2H
 clear hX hY hx hy
 cases e1:(s != u)<;>cases e2:decide (s<u)<;>cases e3:decide (s<0)
 all_goals
  go_enter Tryz.func92,Tryz.ntmps92
  go_wp2_with (first|(go_at_call 126;(with_reducible refine cmono ?_ (P1H.out _ ?_ ?_ ?_ ?_));rotate_left;omega;omega;omega;omega;rintro e w' ⟨rfl,hbc0⟩;obtain ⟨⟨dc0,osc0⟩,rfl⟩:=regrown_of_below hbc0;clear hbc0)|(go_at_call 126;(with_reducible refine cmono ?_ (P2H.out _ ?_ ?_ ?_ ?_));rotate_left;omega;omega;omega;omega;rintro e w' ⟨rfl,hbc1⟩;obtain ⟨⟨dc1,osc1⟩,rfl⟩:=regrown_of_below hbc1;clear hbc1)|(go_at_call 127;(with_reducible refine cmono ?_ (S1H.out _));rotate_left;rintro e w' ⟨rfl,hbc2⟩;obtain ⟨⟨dc2,osc2⟩,rfl⟩:=regrown_of_below hbc2;clear hbc2)|(go_at_call 127;(with_reducible refine cmono ?_ (S2H.out _));rotate_left;rintro e w' ⟨rfl,hbc3⟩;obtain ⟨⟨dc3,osc3⟩,rfl⟩:=regrown_of_below hbc3;clear hbc3)|(go_at_call 128;(with_reducible refine cmono ?_ (L1H.out _));rotate_left;rintro e w' ⟨rfl,hbc4⟩;obtain ⟨⟨dc4,osc4⟩,rfl⟩:=regrown_of_below hbc4;clear hbc4)|(go_at_call 128;(with_reducible refine cmono ?_ (L2H.out _));rotate_left;rintro e w' ⟨rfl,hbc5⟩;obtain ⟨⟨dc5,osc5⟩,rfl⟩:=regrown_of_below hbc5;clear hbc5)|((with_reducible refine wp_region_quiet_below ?_ ?_ ?_);kernel_rfl;kernel_rfl;(repeat (go_big_quiet_step (first|(go_at_call 126;(with_reducible refine Calls.regrown_of (P1H.out _ ?_ ?_ ?_ ?_));omega;omega;omega;omega)|(go_at_call 126;(with_reducible refine Calls.regrown_of (P2H.out _ ?_ ?_ ?_ ?_));omega;omega;omega;omega)|(go_at_call 127;(with_reducible refine Calls.regrown_of (S1H.out _)))|(go_at_call 127;(with_reducible refine Calls.regrown_of (S2H.out _)))|(go_at_call 128;(with_reducible refine Calls.regrown_of (L1H.out _)))|(go_at_call 128;(with_reducible refine Calls.regrown_of (L2H.out _))))));refine wpQuiet_nil ?_;intro _ hw';obtain ⟨⟨dq,osq⟩,hw''⟩:=hw';subst hw'')|((with_reducible refine wp_region_two 10 5 6 #[.bool false,.int .u64 0,.int .u64 0] #[.bool false,.int .u64 0,.int .u64 0] 188 188 ?_ ?_ ?_ ?_ ?_);kernel_rfl;kernel_rfl;(intro _ _;simp [go_sem]);(intro _ _;simp [go_sem]);simp only [List.take_succ_cons,List.take_zero,List.drop_succ_cons,List.drop_zero];(repeat (refine wpS_step (fun K hK => ?_);go_simp;first|(refine hK _ ?_;clear hK K)|(apply Exists.intro;refine ⟨fun _ => ?_,hK _ ?_⟩;(first|(go_at_call 126;(with_reducible refine kept_of (P1H.out _ ?_ ?_ ?_ ?_));omega;omega;omega;omega)|(go_at_call 126;(with_reducible refine kept_of (P2H.out _ ?_ ?_ ?_ ?_));omega;omega;omega;omega)|(go_at_call 127;(with_reducible refine kept_of (S1H.out _)))|(go_at_call 127;(with_reducible refine kept_of (S2H.out _)))|(go_at_call 128;(with_reducible refine kept_of (L1H.out _)))|(go_at_call 128;(with_reducible refine kept_of (L2H.out _))));clear hK K)));refine wpS_nil ?_;refine ⟨?_,?_⟩<;>rintro ⟨dp,op⟩ ⟨dq,oq⟩ ⟨dr,og⟩))
  all_goals go_ret
  all_goals refine ⟨ret_int ?_,(by repeat (first|exact Below.refl _ _|refine below_reg ?_ _ _|refine below_alloc ?_ _|exact below_drewN ?_ _|assumption))⟩
  all_goals have hh:=HC.out
  all_goals simp only [bne_iff_ne,bne_eq_false_iff_eq,decide_eq_true_eq,decide_eq_false_iff_not,ne_eq] at e1 e2 e3
  all_goals first
  | exact ((hh.1 (by omega)).1 (by omega)).symm
  | exact ((hh.1 (by omega)).2 (by omega)).symm
  | exact ((hh.2 (by omega)).1 (by omega)).symm
  | exact ((hh.2 (by omega)).2 (by omega)).symm
end Go.Proofs.YtddbmpbihpkabaaGreat

namespace Go.Proofs.YtddbmpbihpkabaaGreat
open Go.RowKit
def qv (n d:Int):Rat:=mkRat n d.toNat
theorem chk_iff (n d:Int):chk n d=0↔1≤d∧n ≠ -9223372036854775808∧n.natAbs.Coprime d.toNat:=by
 unfold chk Nat.Coprime
 rw [Nat.gcd_comm n.natAbs]
 have hg:1≤d→0<Nat.gcd d.toNat n.natAbs:=fun h=>Nat.gcd_pos_of_pos_left _ (by omega)
 split
 ·rename_i h
  constructor
  ·intro h';omega
  ·rintro ⟨h1,h2,h3⟩;exfalso;omega
 ·rename_i h
  have h1:1≤d:=by omega
  have:=hg h1
  exact ⟨fun _=>⟨h1,by omega,by omega⟩,fun _=>rfl⟩
theorem qv_num {n d:Int} (h:chk n d=0):(qv n d).num=n:=by
 obtain ⟨h1,_,h3⟩:=(chk_iff n d).1 h
 unfold qv
 rw [Rat.num_mkRat,if_neg (by omega),Nat.gcd_comm,show Nat.gcd n.natAbs d.toNat=1 from h3]
 simp
theorem qv_den {n d:Int} (h:chk n d=0):((qv n d).den:Int)=d:=by
 obtain ⟨h1,_,h3⟩:=(chk_iff n d).1 h
 unfold qv
 rw [Rat.den_mkRat,if_neg (by omega),Nat.gcd_comm,show Nat.gcd n.natAbs d.toNat=1 from h3]
 omega
theorem qv_den' {n d:Int} (h:chk n d=0):(qv n d).den=d.toNat:=by have:=qv_den h;omega
def outQ (q:Rat):Int × Int × Int:=if q.num.natAbs≤9223372036854775807∧q.den≤9223372036854775807 then (q.num,q.den,0) else (0,0,16)
theorem build_q (neg:Bool) (m d:Nat) (q:Rat) (hd:d=q.den) (hm:m=q.num.natAbs) (hs:q.num≠0→neg=decide (q.num<0)):buildN neg m d=outQ q:=by
 unfold buildN outQ
 subst hd hm
 split
 ·have:(if neg=true then -(q.num.natAbs:Int) else (q.num.natAbs:Int))=q.num:=by
   by_cases h0:q.num=0
   ·rw [h0];simp
   ·rw [hs h0]
    by_cases hn:q.num<0
    ·rw [decide_eq_true hn,if_pos rfl];omega
    ·rw [decide_eq_false hn,if_neg (by simp)];omega
  rw [this]
 ·rfl
theorem plus_rep (p r:Int) (x y:Nat):plusM (decide (p<0)) (decide (r<0)) (p.natAbs*x) (r.natAbs*y)=(p*x+r*y).natAbs ∧
  (p*x+r*y≠0→plusS (decide (p<0)) (decide (r<0)) (p.natAbs*x) (r.natAbs*y)=decide (p*x+r*y<0)):=by
 have e1:p.natAbs*x=(p*x).natAbs:=by rw [Int.natAbs_mul,Int.natAbs_natCast]
 have e2:r.natAbs*y=(r*y).natAbs:=by rw [Int.natAbs_mul,Int.natAbs_natCast]
 have s1:p*x<0→p<0:=fun h=>by
  rcases (show p<0∨0≤p by omega) with h'|h'
  ·exact h'
  ·have:=Int.mul_nonneg h' (show (0:Int)≤x by omega);omega
 have s2:r*y<0→r<0:=fun h=>by
  rcases (show r<0∨0≤r by omega) with h'|h'
  ·exact h'
  ·have:=Int.mul_nonneg h' (show (0:Int)≤y by omega);omega
 have t1:0<p*x→¬ p<0:=fun h h'=>by
  have:=Int.mul_nonpos_of_nonpos_of_nonneg (show p≤0 by omega) (show (0:Int)≤x by omega);omega
 have t2:0<r*y→¬ r<0:=fun h h'=>by
  have:=Int.mul_nonpos_of_nonpos_of_nonneg (show r≤0 by omega) (show (0:Int)≤y by omega);omega
 rw [e1,e2]
 generalize p*(x:Int)=X at *
 generalize r*(y:Int)=Y at *
 unfold plusM plusS
 by_cases hp:p<0<;>by_cases hr:r<0
 all_goals
  simp only [hp,hr,decide_true,decide_false,if_true,reduceIte,Bool.false_eq_true,Bool.true_eq_false]
  simp only [hp,hr,imp_false,not_true_eq_false,not_false_eq_true,implies_true] at s1 s2 t1 t2
  refine ⟨?_,fun hne => ?_⟩
 all_goals (repeat' split)
 all_goals first|omega|(symm;rw [decide_eq_true_eq];omega)|(symm;rw [decide_eq_false_iff_not];omega)
theorem addR_q {p q r t:Int} (h1:chk p q=0) (h2:chk r t=0):addR p q.toNat r t.toNat=outQ (qv p q+qv r t):=by
 obtain ⟨a1,a2,a3⟩:=(chk_iff p q).1 h1
 obtain ⟨b1,b2,b3⟩:=(chk_iff r t).1 h2
 have haux:=Rat.add.aux (qv p q) (qv r t) rfl rfl rfl
 have hsum:=Rat.add_def' (qv p q) (qv r t)
 rw [qv_num h1,qv_num h2,qv_den' h1,qv_den' h2] at haux hsum
 obtain ⟨Q,hQ⟩:∃ Q,Q=q.toNat:=⟨_,rfl⟩
 obtain ⟨T,hT⟩:∃ T,T=t.toNat:=⟨_,rfl⟩
 rw [← hQ,← hT] at haux hsum ⊢
 have q0:0<Q:=by omega
 have t0:0<T:=by omega
 unfold addR
 obtain ⟨c1,c2⟩:=plus_rep p r (T / Nat.gcd Q T) (Q / Nat.gcd Q T)
 rw [c1]
 have g0:0<Nat.gcd Q T:=Nat.gcd_pos_of_pos_left _ q0
 have gq:Nat.gcd Q T ∣ Q:=Nat.gcd_dvd_left _ _
 have gt:Nat.gcd Q T ∣ T:=Nat.gcd_dvd_right _ _
 generalize Nat.gcd Q T=g at *
 obtain ⟨y,rfl⟩:=gq
 obtain ⟨x,rfl⟩:=gt
 rw [Nat.mul_div_cancel_left _ g0,Nat.mul_div_cancel_left _ g0] at *
 have e:qv p q+qv r t=mkRat (p*x+r*y) (y*(g*x)):=by
  rw [hsum]
  have n1:p*((g*x:Nat):Int)+r*((g*y:Nat):Int)=(p*x+r*y)*(g:Int):=by
   rw [Int.natCast_mul,Int.natCast_mul,Int.add_mul,Int.mul_left_comm,Int.mul_comm (g:Int),Int.mul_left_comm r,Int.mul_comm (g:Int)]
  have n2:g*y*(g*x)=y*(g*x)*g:=by
   rw [Nat.mul_comm g y,Nat.mul_assoc,Nat.mul_assoc,Nat.mul_comm g (g*x)]
  rw [n1,n2]
  exact Rat.mkRat_mul_right (by omega)
 generalize hN:p*(x:Int)+r*(y:Int)=N at *
 have hh:Nat.gcd g (N.natAbs % g)=Nat.gcd (y*(g*x)) N.natAbs:=by
  rw [Nat.gcd_comm (y*(g*x)),← haux,Nat.gcd_comm N.natAbs g,Nat.gcd_rec g N.natAbs,Nat.gcd_comm]
 have hd0:y*(g*x)≠0:=by
  intro h0
  rcases Nat.mul_eq_zero.1 h0 with h0|h0
  ·subst h0;simp at q0
  ·omega
 have dg:Nat.gcd g (N.natAbs % g) ∣ g:=Nat.gcd_dvd_left _ _
 refine build_q _ _ _ _ ?_ ?_ ?_
 ·rw [e,Rat.den_mkRat,if_neg hd0,← hh]
  exact (Nat.mul_div_assoc _ (Nat.dvd_trans dg (Nat.dvd_mul_right _ _))).symm
 ·rw [e,Rat.num_mkRat,if_neg hd0,← hh]
  rw [Int.natAbs_ediv_of_dvd]
  ·simp
  ·rw [hh,← Int.dvd_natAbs,Int.ofNat_dvd]
   exact Nat.gcd_dvd_right _ _
 ·rw [e,Rat.num_mkRat,if_neg hd0,← hh]
  have hdv:((Nat.gcd g (N.natAbs % g):Nat):Int) ∣ N:=by
   rw [hh,← Int.dvd_natAbs,Int.ofNat_dvd]
   exact Nat.gcd_dvd_right _ _
  have hpos:(0:Int)<(Nat.gcd g (N.natAbs % g):Nat):=by
   have:=Nat.gcd_pos_of_pos_left (N.natAbs % g) g0
   omega
  intro hne
  obtain ⟨k,hk⟩:=hdv
  generalize ((Nat.gcd g (N.natAbs % g):Nat):Int)=G at *
  subst hk
  rw [Int.mul_ediv_cancel_left _ (by omega)] at hne ⊢
  rw [c2 (by intro h0;rcases Int.mul_eq_zero.1 h0 with h0|h0<;>omega)]
  have:G*k<0↔k<0:=by
   constructor
   ·intro h
    rcases (show k<0∨0≤k by omega) with h'|h'
    ·exact h'
    ·have:=Int.mul_nonneg (Int.le_of_lt hpos) h';omega
   ·intro h
    exact Int.mul_neg_of_pos_of_neg hpos h
  rw [decide_eq_decide]
  exact this
theorem tdiv_gcd (n:Int) (k:Nat):n.tdiv (Nat.gcd n.natAbs k:Nat)=n / (Nat.gcd n.natAbs k:Nat):=by
 refine Int.tdiv_eq_ediv_of_dvd ?_
 rw [← Int.dvd_natAbs,Int.ofNat_dvd]
 exact Nat.gcd_dvd_left _ _
theorem rat_mul_parts (a b:Rat):(a*b).num=a.num.tdiv (Nat.gcd a.num.natAbs b.den)*b.num.tdiv (Nat.gcd b.num.natAbs a.den)∧(a*b).den=a.den / Nat.gcd b.num.natAbs a.den*(b.den / Nat.gcd a.num.natAbs b.den):=by
 have h:a*b=Rat.mul a b:=rfl
 rw [h]
 unfold Rat.mul
 rw [tdiv_gcd,tdiv_gcd]
 constructor<;>simp
theorem mulR_q {p q r t:Int} (h1:chk p q=0) (h2:chk r t=0):mulR p q.toNat r t.toNat=outQ (qv p q*qv r t):=by
 obtain ⟨m1,m2⟩:=rat_mul_parts (qv p q) (qv r t)
 rw [qv_num h1,qv_num h2,qv_den' h1,qv_den' h2] at m1 m2
 obtain ⟨a1,a2,a3⟩:=(chk_iff p q).1 h1
 obtain ⟨b1,b2,b3⟩:=(chk_iff r t).1 h2
 unfold mulR
 rw [Nat.gcd_comm t.toNat,Nat.gcd_comm q.toNat]
 refine build_q _ _ _ _ ?_ ?_ ?_
 ·rw [m2]
 ·rw [m1,Int.natAbs_mul]
 ·rw [m1]
  generalize p.tdiv (Nat.gcd p.natAbs t.toNat:Nat)=X
  generalize r.tdiv (Nat.gcd r.natAbs q.toNat:Nat)=Y
  intro hne
  rcases Int.lt_trichotomy X 0 with hx|hx|hx<;>rcases Int.lt_trichotomy Y 0 with hy|hy|hy
  ·have:=Int.mul_pos_of_neg_of_neg hx hy
   rw [decide_eq_true hx,decide_eq_true hy,decide_eq_false (by omega)];rfl
  ·subst hy;simp at hne
  ·have:=Int.mul_neg_of_neg_of_pos hx hy
   rw [decide_eq_true hx,decide_eq_false (show ¬ Y<0 by omega),decide_eq_true this];rfl
  ·subst hx;simp at hne
  ·subst hx;simp at hne
  ·subst hx;simp at hne
  ·have:=Int.mul_neg_of_pos_of_neg hx hy
   rw [decide_eq_false (show ¬ X<0 by omega),decide_eq_true hy,decide_eq_true this];rfl
  ·subst hy;simp at hne
  ·have:=Int.mul_pos hx hy
   rw [decide_eq_false (show ¬ X<0 by omega),decide_eq_false (show ¬ Y<0 by omega),decide_eq_false (by omega)];rfl
theorem addV_q {p q r t:Int} (h1:chk p q=0) (h2:chk r t=0):addV p q r t=outQ (qv p q+qv r t):=by
 unfold addV
 rw [if_pos (by unfold bth;rw [if_pos h1,h2]),addR_q h1 h2]
theorem mulV_q {p q r t:Int} (h1:chk p q=0) (h2:chk r t=0):mulV p q r t=outQ (qv p q*qv r t):=by
 unfold mulV
 rw [if_pos (by unfold bth;rw [if_pos h1,h2]),mulR_q h1 h2]
theorem chk_neg {r t:Int} (h:chk r t=0) (hr:r≤9223372036854775807):chk (-r) t=0:=by
 obtain ⟨b1,b2,b3⟩:=(chk_iff r t).1 h
 exact (chk_iff _ _).2 ⟨b1,by omega,by rw [Int.natAbs_neg];exact b3⟩
theorem qv_neg (r t:Int):qv (-r) t = -qv r t:=by unfold qv;rw [Rat.neg_mkRat]
theorem subV_q {p q r t:Int} (h1:chk p q=0) (h2:chk r t=0) (hr:r≤9223372036854775807):subV p q r t=outQ (qv p q-qv r t):=by
 unfold subV
 rw [if_pos (by unfold bth;rw [if_pos h1,h2]),addV_q h1 (chk_neg h2 hr),qv_neg,Rat.sub_eq_add_neg]
theorem outQ_ok {q:Rat} (h:(outQ q).2.2=0):outQ q=(q.num,(q.den:Int),0)∧q.num.natAbs≤9223372036854775807∧q.den≤9223372036854775807:=by
 unfold outQ at *
 split at h
 ·rename_i hc
  rw [if_pos hc]
  exact ⟨rfl,hc⟩
 ·exact absurd h (by decide)
theorem outQ_err (q:Rat):(outQ q).2.2=0∨outQ q=(0,0,16):=by
 unfold outQ
 split
 ·exact .inl rfl
 ·exact .inr rfl
theorem chk_rat (q:Rat) (h:q.num.natAbs≤9223372036854775807):chk q.num q.den=0 :=
 (chk_iff _ _).2 ⟨by have:=q.den_pos;omega,by omega,by rw [Int.toNat_natCast];exact q.reduced⟩
theorem qv_rat (q:Rat):qv q.num q.den=q:=by unfold qv;rw [Int.toNat_natCast,Rat.mkRat_self]
end Go.Proofs.YtddbmpbihpkabaaGreat

namespace Go.Proofs.YtddbmpbihpkabaaGreat
open Go.RowKit Go.Sort
theorem rmade_two (x y z:Bool) (a b c d m n:Nat) (h1:Two a b m) (h2:Two c d n) (w:World) :
  Calls Tryz.prog 159 #[.bool x,.agg #[.bool y,.int .u64 a,.int .u64 b],.agg #[.bool z,.int .u64 c,.int .u64 d]] w fun e w' =>
   e=.returned (.tuple #[.agg #[.int .i64 (buildN x m n).1,.int .i64 (buildN x m n).2.1],.int .i64 (buildN x m n).2.2])∧Below w.heap.size w w':=by
 refine (rmade_any x y z a b c d w h1.lo h2.lo).mono fun e w' ⟨he,hb⟩=>⟨?_,hb⟩
 rw [he,h1.eq,h2.eq]
theorem buildN_zero (x y:Bool) (d:Nat):buildN x 0 d=buildN y 0 d:=by unfold buildN;cases x<;>cases y<;>simp
theorem addR_alt (p:Int) (q:Nat) (r:Int) (t:Nat) (g x y k h z:Nat) (hg:g=Nat.gcd q t) (hx:x=t / g) (hy:y=q / g) (hk:k=(p*x+r*y).natAbs) (hh:h=Nat.gcd g (k % g)) (hz:z=t / h) :
  addR p q r t=buildN (decide (p*x+r*y<0)) (k / h) (y*z):=by
 unfold addR
 rw [← hg,← hx,← hy]
 obtain ⟨e1,e2⟩:=plus_rep p r x y
 rw [e1,← hk,← hh,← hz]
 by_cases h0:p*x+r*y=0
 ·have:k=0:=by rw [hk,h0];rfl
  rw [this,Nat.zero_div]
  exact buildN_zero _ _ _
 ·rw [e2 h0]
set_option maxHeartbeats 4000000 in
theorem radd_valid (p r:Int) (q t:Nat) (w:World) (p0 : -9223372036854775807≤p) (p1:p≤9223372036854775807) (r0 : -9223372036854775807≤r) (r1:r≤9223372036854775807)
  (q0:0<q) (q1:q≤9223372036854775807) (t0:0<t) (t1:t≤9223372036854775807) (hv:bth p q r t=0) :
  Calls Tryz.prog 132 #[.agg #[.int .i64 p,.int .i64 q],.agg #[.int .i64 r,.int .i64 t]] w fun e w' =>
   e=.returned (.tuple #[.agg #[.int .i64 (addR p q r t).1,.int .i64 (addR p q r t).2.1],.int .i64 (addR p q r t).2.2])∧Below w.heap.size w w':=by
 have HB:=rboth_any p q r t
 rw [hv] at HB
 have HBB:=Lib.hid HB
 clear HB hv
 have g0:0<Nat.gcd q t:=Nat.gcd_pos_of_pos_left _ q0
 have gq:Nat.gcd q t≤q:=Nat.le_of_dvd q0 (Nat.gcd_dvd_left _ _)
 have gt:Nat.gcd q t≤t:=Nat.le_of_dvd t0 (Nat.gcd_dvd_right _ _)
 obtain ⟨g,hg⟩:∃ g,g=Nat.gcd q t:=⟨_,rfl⟩
 have HG:=fun w=>rcommon_any q t w
 rw [← hg] at g0 gq gt HG
 have HGG:=Lib.hid HG
 have hx:=Nat.div_le_self t g
 have hy:=Nat.div_le_self q g
 have X:(t:Int).tdiv (g:Int)=((t / g:Nat):Int):=rfl
 have Y:(q:Int).tdiv (g:Int)=((q / g:Nat):Int):=rfl
 have X2:(t:Int) / (g:Int)=((t / g:Nat):Int):=rfl
 have Y2:(q:Int) / (g:Int)=((q / g:Nat):Int):=rfl
 clear HG
 have gz:((g:Int) == 0)=false:=by simp;omega
 have gn:¬ g=0:=by omega
 obtain ⟨x,hxd⟩:∃ x,x=t / g:=⟨_,rfl⟩
 obtain ⟨y,hyd⟩:∃ y,y=q / g:=⟨_,rfl⟩
 rw [← hxd] at hx X X2
 rw [← hyd] at hy Y Y2
 obtain ⟨a1,b1,h1⟩:=two_mk (p*x).natAbs
 obtain ⟨a2,b2,h2⟩:=two_mk (r*y).natAbs
 have m1:(p*x).natAbs≤9223372036854775807*9223372036854775807:=by
  rw [Int.natAbs_mul,Int.natAbs_natCast];exact Nat.mul_le_mul (by omega) (by omega)
 have m2:(r*y).natAbs≤9223372036854775807*9223372036854775807:=by
  rw [Int.natAbs_mul,Int.natAbs_natCast];exact Nat.mul_le_mul (by omega) (by omega)
 have T1:=Lib.hid (rProduct_any p x a1 b1 (by rw [← Int.natAbs_mul];exact h1))
 have T2:=Lib.hid (rProduct_any r y a2 b2 (by rw [← Int.natAbs_mul];exact h2))
 obtain ⟨k,hk⟩:∃ k,k=(p*x+r*y).natAbs:=⟨_,rfl⟩
 have hS:k≤(p*x).natAbs+(r*y).natAbs:=by rw [hk];exact Int.natAbs_add_le _ _
 have hkb:k<9223372036854775807*18446744073709551616:=Nat.lt_of_le_of_lt hS (by omega)
 obtain ⟨a3,b3,h3⟩:=two_mk k
 have hm2:(p*x).natAbs<9223372036854775807*18446744073709551616:=Nat.lt_of_le_of_lt m1 (by decide)
 have hn2:(r*y).natAbs<9223372036854775807*18446744073709551616:=Nat.lt_of_le_of_lt m2 (by decide)
 have P1H:=Lib.hid (fun w=>rPlus_any (p*x) (r*y) a1 b1 a2 b2 a3 b3 h1 h2 (by rw [← hk];exact h3) hm2 hn2 w)
 obtain ⟨h,hh⟩:∃ h,h=Nat.gcd g (k % g):=⟨_,rfl⟩
 obtain ⟨z,hzd⟩:∃ z,z=t / h:=⟨_,rfl⟩
 rw [addR_alt p q r t g x y k h z hg hxd hyd hk hh hzd]
 obtain ⟨s1,hs1⟩:∃ s,s=decide (p*x<0):=⟨_,rfl⟩
 obtain ⟨s2,hs2⟩:∃ s,s=decide (r*y<0):=⟨_,rfl⟩
 obtain ⟨s,hs⟩:∃ s,s=decide (p*x+r*y<0):=⟨_,rfl⟩
 rw [← hs1] at T1 P1H
 rw [← hs2] at T2 P1H
 rw [← hs] at P1H ⊢
 obtain ⟨c1,c2,hc⟩:=two_mk (k / g)
 obtain ⟨e,he⟩:∃ e,e=k % g:=⟨_,rfl⟩
 have O1:=Lib.hid (fun w=>rdivided_any s a3 b3 k g c1 c2 e h3 hc he hkb g0 (by omega) w)
 have heg:=Nat.mod_lt k g0
 rw [← he] at heg hh
 have h0:0<h:=by rw [hh];exact Nat.gcd_pos_of_pos_left _ g0
 have hle:h≤g:=by rw [hh];exact Nat.le_of_dvd g0 (Nat.gcd_dvd_left _ _)
 have HH:=fun w=>rcommon_any g e w
 rw [← hh] at HH
 have HHH:=Lib.hid HH
 obtain ⟨d1,d2,hd⟩:=two_mk (k / h)
 have O2:=Lib.hid (fun w=>rdivided_any s a3 b3 k h d1 d2 (k % h) h3 hd rfl hkb h0 (by omega) w)
 have tz:=Nat.div_le_self t h
 have hz:((h:Int) == 0)=false:=by simp;omega
 have Xw:=wrap_small x (by omega)
 have Yw:=wrap_small y (by omega)
 have Z:IntKind.u64.wrap ((t:Int) / (h:Int))=((t / h:Nat):Int):=by
  rw [IntKind.wrap_u64,← Int.natCast_ediv];exact Int.emod_eq_of_lt (Int.natCast_nonneg _) (by omega)
 have Z2:(t:Int) / (h:Int)=((t / h:Nat):Int):=rfl
 rw [← hzd] at tz Z Z2
 obtain ⟨f1,f2,hf⟩:=two_mk (y*z)
 have M1:=Lib.hid (rproduct_any y z f1 f2 hf)
 have B1:=Lib.hid (rmade_two s false false d1 d2 f1 f2 (k / h) (y*z) hd hf)
 obtain ⟨kr,hkr⟩:∃ kr,kr=k % h:=⟨_,rfl⟩
 rw [← hkr] at O2
 clear hxd hyd hs hk he hh hzd hf hd hc h1 h2 h3 HH hS m1 m2 hkr hs1 hs2 hg hm2 hn2 hkb
 go_enter Tryz.func132,Tryz.ntmps132
 go_wp2_with (first|(go_at_call 158;(with_reducible refine cmono ?_ (HBB.out _ ?_ ?_ ?_ ?_ ?_ ?_ ?_ ?_));rotate_left;omega;omega;omega;omega;omega;omega;omega;omega;rintro e w' ⟨rfl,hbc0⟩;obtain ⟨⟨dc0,osc0⟩,rfl⟩:=regrown_of_below hbc0;clear hbc0)|(go_at_call 137;(with_reducible refine cmono ?_ (HGG.out _));rotate_left;rintro e w' ⟨rfl,hbc1⟩;obtain ⟨⟨dc1,osc1⟩,rfl⟩:=regrown_of_below hbc1;clear hbc1)|(go_at_call 137;(with_reducible refine cmono ?_ (HHH.out _));rotate_left;rintro e w' ⟨rfl,hbc2⟩;obtain ⟨⟨dc2,osc2⟩,rfl⟩:=regrown_of_below hbc2;clear hbc2)|(go_at_call 126;(with_reducible refine cmono ?_ (T1.out _ ?_ ?_ ?_ ?_));rotate_left;omega;omega;omega;omega;rintro e w' ⟨rfl,hbc3⟩;obtain ⟨⟨dc3,osc3⟩,rfl⟩:=regrown_of_below hbc3;clear hbc3)|(go_at_call 126;(with_reducible refine cmono ?_ (T2.out _ ?_ ?_ ?_ ?_));rotate_left;omega;omega;omega;omega;rintro e w' ⟨rfl,hbc4⟩;obtain ⟨⟨dc4,osc4⟩,rfl⟩:=regrown_of_below hbc4;clear hbc4)|(go_at_call 133;(with_reducible refine cmono ?_ (P1H.out _));rotate_left;rintro e w' ⟨rfl,hbc5⟩;obtain ⟨⟨dc5,osc5⟩,rfl⟩:=regrown_of_below hbc5;clear hbc5)|(go_at_call 160;(with_reducible refine cmono ?_ (O1.out _));rotate_left;rintro e w' ⟨rfl,hbc6⟩;obtain ⟨⟨dc6,osc6⟩,rfl⟩:=regrown_of_below hbc6;clear hbc6)|(go_at_call 160;(with_reducible refine cmono ?_ (O2.out _));rotate_left;rintro e w' ⟨rfl,hbc7⟩;obtain ⟨⟨dc7,osc7⟩,rfl⟩:=regrown_of_below hbc7;clear hbc7)|(go_at_call 154;(with_reducible refine cmono ?_ (M1.out _ ?_ ?_));rotate_left;omega;omega;rintro e w' ⟨rfl,hbc8⟩;obtain ⟨⟨dc8,osc8⟩,rfl⟩:=regrown_of_below hbc8;clear hbc8)|(go_at_call 159;(with_reducible refine cmono ?_ (B1.out _));rotate_left;rintro e w' ⟨rfl,hbc9⟩;obtain ⟨⟨dc9,osc9⟩,rfl⟩:=regrown_of_below hbc9;clear hbc9)|((with_reducible refine wp_region_quiet_below ?_ ?_ ?_);kernel_rfl;kernel_rfl;(repeat (go_big_quiet_step (first|(go_at_call 158;(with_reducible refine Calls.regrown_of (HBB.out _ ?_ ?_ ?_ ?_ ?_ ?_ ?_ ?_));omega;omega;omega;omega;omega;omega;omega;omega)|(go_at_call 137;(with_reducible refine Calls.regrown_of (HGG.out _)))|(go_at_call 137;(with_reducible refine Calls.regrown_of (HHH.out _)))|(go_at_call 126;(with_reducible refine Calls.regrown_of (T1.out _ ?_ ?_ ?_ ?_));omega;omega;omega;omega)|(go_at_call 126;(with_reducible refine Calls.regrown_of (T2.out _ ?_ ?_ ?_ ?_));omega;omega;omega;omega)|(go_at_call 133;(with_reducible refine Calls.regrown_of (P1H.out _)))|(go_at_call 160;(with_reducible refine Calls.regrown_of (O1.out _)))|(go_at_call 160;(with_reducible refine Calls.regrown_of (O2.out _)))|(go_at_call 154;(with_reducible refine Calls.regrown_of (M1.out _ ?_ ?_));omega;omega)|(go_at_call 159;(with_reducible refine Calls.regrown_of (B1.out _))))));refine wpQuiet_nil ?_;intro _ hw';obtain ⟨⟨dq,osq⟩,hw''⟩:=hw';subst hw'')|((with_reducible refine wp_region_tail_below 17 ?_ ?_ ?_);kernel_rfl;kernel_rfl;simp only [List.take_succ_cons,List.take_zero,List.drop_succ_cons,List.drop_zero];(repeat (go_big_quiet_step (first|(go_at_call 158;(with_reducible refine Calls.regrown_of (HBB.out _ ?_ ?_ ?_ ?_ ?_ ?_ ?_ ?_));omega;omega;omega;omega;omega;omega;omega;omega)|(go_at_call 137;(with_reducible refine Calls.regrown_of (HGG.out _)))|(go_at_call 137;(with_reducible refine Calls.regrown_of (HHH.out _)))|(go_at_call 126;(with_reducible refine Calls.regrown_of (T1.out _ ?_ ?_ ?_ ?_));omega;omega;omega;omega)|(go_at_call 126;(with_reducible refine Calls.regrown_of (T2.out _ ?_ ?_ ?_ ?_));omega;omega;omega;omega)|(go_at_call 133;(with_reducible refine Calls.regrown_of (P1H.out _)))|(go_at_call 160;(with_reducible refine Calls.regrown_of (O1.out _)))|(go_at_call 160;(with_reducible refine Calls.regrown_of (O2.out _)))|(go_at_call 154;(with_reducible refine Calls.regrown_of (M1.out _ ?_ ?_));omega;omega)|(go_at_call 159;(with_reducible refine Calls.regrown_of (B1.out _))))));refine wpQuiet_nil ?_;intro _ hw';obtain ⟨⟨dq,osq⟩,hw''⟩:=hw';subst hw'')|((with_reducible refine wp_region_alloc_at 15 7 #[.bool false,.int .u64 0,.int .u64 0] 188 ?_ ?_ ?_ ?_);kernel_rfl;kernel_rfl;(intro _ _;simp [go_sem]);simp only [List.take_succ_cons,List.take_zero,List.drop_succ_cons,List.drop_zero];(repeat (refine wpS_step (fun K hK => ?_);go_simp;first|(refine hK _ ?_;clear hK K)|(apply Exists.intro;refine ⟨fun _ => ?_,hK _ ?_⟩;(first|(go_at_call 158;(with_reducible refine kept_of (HBB.out _ ?_ ?_ ?_ ?_ ?_ ?_ ?_ ?_));omega;omega;omega;omega;omega;omega;omega;omega)|(go_at_call 137;(with_reducible refine kept_of (HGG.out _)))|(go_at_call 137;(with_reducible refine kept_of (HHH.out _)))|(go_at_call 126;(with_reducible refine kept_of (T1.out _ ?_ ?_ ?_ ?_));omega;omega;omega;omega)|(go_at_call 126;(with_reducible refine kept_of (T2.out _ ?_ ?_ ?_ ?_));omega;omega;omega;omega)|(go_at_call 133;(with_reducible refine kept_of (P1H.out _)))|(go_at_call 160;(with_reducible refine kept_of (O1.out _)))|(go_at_call 160;(with_reducible refine kept_of (O2.out _)))|(go_at_call 154;(with_reducible refine kept_of (M1.out _ ?_ ?_));omega;omega)|(go_at_call 159;(with_reducible refine kept_of (B1.out _))));clear hK K)));refine wpS_nil ?_;rintro ⟨dp,op⟩ ⟨dq,oq⟩))
 refine bodyPost_ret (v:=.tuple #[.agg #[.int .i64 (buildN s (k / h) (y*z)).1,.int .i64 (buildN s (k / h) (y*z)).2.1],.int .i64 (buildN s (k / h) (y*z)).2.2]) (by simp [results,Tryz.results132,go_sem]) rfl ⟨rfl,(by repeat (first|exact Below.refl _ _|refine below_reg ?_ _ _|refine below_alloc ?_ _|exact below_drewN ?_ _|assumption))⟩
theorem radd_any (p q r t:Int) (w:World) (p0 : -9223372036854775808≤p) (p1:p≤9223372036854775807) (q0 : -9223372036854775808≤q) (q1:q≤9223372036854775807)
  (r0 : -9223372036854775808≤r) (r1:r≤9223372036854775807) (t0 : -9223372036854775808≤t) (t1:t≤9223372036854775807) :
  Calls Tryz.prog 132 #[.agg #[.int .i64 p,.int .i64 q],.agg #[.int .i64 r,.int .i64 t]] w fun e w' =>
   e=.returned (.tuple #[.agg #[.int .i64 (addV p q r t).1,.int .i64 (addV p q r t).2.1],.int .i64 (addV p q r t).2.2])∧Below w.heap.size w w':=by
 unfold addV
 rcases bth_08 p q r t with hv|hv
 ·rw [if_pos hv]
  obtain ⟨h1,h2⟩:=bth_ok hv
  obtain ⟨a1,a2,_⟩:=chk_ok h1
  obtain ⟨b1,b2,_⟩:=chk_ok h2
  obtain ⟨Q,rfl⟩:=Int.eq_ofNat_of_zero_le (show 0≤q by omega)
  obtain ⟨T,rfl⟩:=Int.eq_ofNat_of_zero_le (show 0≤t by omega)
  exact radd_valid p r Q T w (by omega) p1 (by omega) r1 (by omega) (by omega) (by omega) (by omega) hv
 ·rw [if_neg (by omega)]
  have HB:=rboth_any p q r t
  rw [hv] at HB
  have HBB:=Lib.hid HB
  clear HB hv
  go_enter Tryz.func132,Tryz.ntmps132
  go_wp2_with (first|(go_at_call 158;(with_reducible refine cmono ?_ (HBB.out _ ?_ ?_ ?_ ?_ ?_ ?_ ?_ ?_));rotate_left;omega;omega;omega;omega;omega;omega;omega;omega;rintro e w' ⟨rfl,hbc0⟩;obtain ⟨⟨dc0,osc0⟩,rfl⟩:=regrown_of_below hbc0;clear hbc0)|((with_reducible refine wp_region_quiet_below ?_ ?_ ?_);kernel_rfl;kernel_rfl;(repeat (go_big_quiet_step (first|(go_at_call 158;(with_reducible refine Calls.regrown_of (HBB.out _ ?_ ?_ ?_ ?_ ?_ ?_ ?_ ?_));omega;omega;omega;omega;omega;omega;omega;omega))));refine wpQuiet_nil ?_;intro _ hw';obtain ⟨⟨dq,osq⟩,hw''⟩:=hw';subst hw''))
  refine bodyPost_ret (v:=.tuple #[.agg #[.int .i64 0,.int .i64 0],.int .i64 8]) (by simp [results,Tryz.results132,go_sem]) rfl ⟨rfl,(by repeat (first|exact Below.refl _ _|refine below_reg ?_ _ _|refine below_alloc ?_ _|exact below_drewN ?_ _|assumption))⟩
theorem rsub_any (p q r t:Int) (w:World) (p0 : -9223372036854775808≤p) (p1:p≤9223372036854775807) (q0 : -9223372036854775808≤q) (q1:q≤9223372036854775807)
  (r0 : -9223372036854775808≤r) (r1:r≤9223372036854775807) (t0 : -9223372036854775808≤t) (t1:t≤9223372036854775807) :
  Calls Tryz.prog 135 #[.agg #[.int .i64 p,.int .i64 q],.agg #[.int .i64 r,.int .i64 t]] w fun e w' =>
   e=.returned (.tuple #[.agg #[.int .i64 (subV p q r t).1,.int .i64 (subV p q r t).2.1],.int .i64 (subV p q r t).2.2])∧Below w.heap.size w w':=by
 unfold subV
 have HB:=rboth_any p q r t
 rcases bth_08 p q r t with hv|hv
 all_goals
  rw [hv] at HB
  have HBB:=Lib.hid HB
  clear HB
 ·rw [if_pos hv]
  obtain ⟨h1,h2⟩:=bth_ok hv
  obtain ⟨b1,b2,_⟩:=chk_ok h2
  clear hv h1 h2
  have r2 : -9223372036854775807≤r:=by omega
  go_enter Tryz.func135,Tryz.ntmps135
  go_wp2_with (first|(go_at_call 158;(with_reducible refine cmono ?_ (HBB.out _ ?_ ?_ ?_ ?_ ?_ ?_ ?_ ?_));rotate_left;omega;omega;omega;omega;omega;omega;omega;omega;rintro e w' ⟨rfl,hbc0⟩;obtain ⟨⟨dc0,osc0⟩,rfl⟩:=regrown_of_below hbc0;clear hbc0)|(go_at_call 132;(with_reducible refine cmono ?_ (radd_any _ _ _ _ _ ?_ ?_ ?_ ?_ ?_ ?_ ?_ ?_));rotate_left;omega;omega;omega;omega;omega;omega;omega;omega;rintro e w' ⟨rfl,hbc1⟩;obtain ⟨⟨dc1,osc1⟩,rfl⟩:=regrown_of_below hbc1;clear hbc1)|((with_reducible refine wp_region_quiet_below ?_ ?_ ?_);kernel_rfl;kernel_rfl;(repeat (go_big_quiet_step (first|(go_at_call 158;(with_reducible refine Calls.regrown_of (HBB.out _ ?_ ?_ ?_ ?_ ?_ ?_ ?_ ?_));omega;omega;omega;omega;omega;omega;omega;omega)|(go_at_call 132;(with_reducible refine Calls.regrown_of (radd_any _ _ _ _ _ ?_ ?_ ?_ ?_ ?_ ?_ ?_ ?_));omega;omega;omega;omega;omega;omega;omega;omega))));refine wpQuiet_nil ?_;intro _ hw';obtain ⟨⟨dq,osq⟩,hw''⟩:=hw';subst hw''))
  refine bodyPost_ret (v:=.tuple #[.agg #[.int .i64 (addV p q (-r) t).1,.int .i64 (addV p q (-r) t).2.1],.int .i64 (addV p q (-r) t).2.2]) (by simp [results,Tryz.results135,go_sem]) rfl ⟨rfl,(by repeat (first|exact Below.refl _ _|refine below_reg ?_ _ _|refine below_alloc ?_ _|exact below_drewN ?_ _|assumption))⟩
 ·rw [if_neg (by omega)]
  clear hv
  go_enter Tryz.func135,Tryz.ntmps135
  go_wp2_with (first|(go_at_call 158;(with_reducible refine cmono ?_ (HBB.out _ ?_ ?_ ?_ ?_ ?_ ?_ ?_ ?_));rotate_left;omega;omega;omega;omega;omega;omega;omega;omega;rintro e w' ⟨rfl,hbc0⟩;obtain ⟨⟨dc0,osc0⟩,rfl⟩:=regrown_of_below hbc0;clear hbc0)|((with_reducible refine wp_region_quiet_below ?_ ?_ ?_);kernel_rfl;kernel_rfl;(repeat (go_big_quiet_step (first|(go_at_call 158;(with_reducible refine Calls.regrown_of (HBB.out _ ?_ ?_ ?_ ?_ ?_ ?_ ?_ ?_));omega;omega;omega;omega;omega;omega;omega;omega))));refine wpQuiet_nil ?_;intro _ hw';obtain ⟨⟨dq,osq⟩,hw''⟩:=hw';subst hw''))
  refine bodyPost_ret (v:=.tuple #[.agg #[.int .i64 0,.int .i64 0],.int .i64 8]) (by simp [results,Tryz.results135,go_sem]) rfl ⟨rfl,(by repeat (first|exact Below.refl _ _|refine below_reg ?_ _ _|refine below_alloc ?_ _|exact below_drewN ?_ _|assumption))⟩
end Go.Proofs.YtddbmpbihpkabaaGreat
