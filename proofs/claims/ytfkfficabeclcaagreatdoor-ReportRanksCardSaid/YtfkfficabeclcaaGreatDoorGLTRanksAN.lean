import Derived.Test.YtfkfficabeclcaaGreatDoorGLTRanksAM
import Derived.Test.YtfkfficabeclcaaGreatDoorGLTRanksAK
set_option linter.all false
namespace Go.Proofs.YtfkfficabeclcaaGreatDoor
open Go.RowKit Go.Sort
theorem rcommon_any (a b:Nat) (w:World) :
  Calls Tryz.prog 120 #[.int .u64 a,.int .u64 b] w fun e w'=>e=.returned (.int .u64 (Nat.gcd a b:Nat))∧Below w.heap.size w w':=by
 go_enter Tryz.func120,Tryz.ntmps120
 go_wp2
 go_loopw [0,1] (fun x y wr=>∃ n m:Nat,x=.int .u64 n∧y=.int .u64 m∧Hid (Nat.gcd n m=Nat.gcd a b)∧Below w.heap.size w wr) (fun _ y _=>(intOf y).toNat)
 case atStart=>exact ⟨a,b,rfl,rfl,Lib.hid rfl,Below.refl _ _⟩
 case round =>
  obtain ⟨n,m,rfl,rfl,hg,hb⟩:=hrel
  by_cases h0:0<m
  ·have hz:((m:Int) != 0)=true:=by simp;omega
   have hz2:((m:Int) == 0)=false:=by simp;omega
   go_wp2
   go_quiet (fail)
   go_wp2
   have hlt:=Nat.mod_lt n h0
   refine ⟨⟨m,n % m,rfl,by simp,Lib.hid ?_,below_drewN hb _⟩,?_⟩
   ·rw [← hg.out,Nat.gcd_comm n m,Nat.gcd_rec m n,Nat.gcd_comm]
   ·show ((n:Int) % (m:Int)).toNat<((m:Int)).toNat
    omega
  ·obtain rfl:m=0:=by omega
   go_wp2
   go_ret
   refine ⟨ret_int ?_,hb⟩
   rw [← hg.out]
   simp
theorem rsize_any (n:Int) (w:World) (h0 : -9223372036854775808≤n) (h1:n≤9223372036854775807) :
  Calls Tryz.prog 121 #[.int .i64 n] w fun e w'=>e=.returned (.int .u64 (n.natAbs:Nat))∧Below w.heap.size w w':=by
 by_cases hn:n<0
 ·go_enter Tryz.func121,Tryz.ntmps121
  go_wp2_with (first|((with_reducible refine wp_region_quiet_below ?_ ?_ ?_);kernel_rfl;kernel_rfl;(repeat (go_big_quiet_step (fail)));refine wpQuiet_nil ?_;intro _ hw';obtain ⟨⟨dq,osq⟩,hw''⟩:=hw';subst hw''))
  go_ret
  refine ⟨ret_int ?_,Below.refl _ _⟩
  show -(n+1)+1=_
  omega
 ·go_enter Tryz.func121,Tryz.ntmps121
  go_wp2_with (first|((with_reducible refine wp_region_quiet_below ?_ ?_ ?_);kernel_rfl;kernel_rfl;(repeat (go_big_quiet_step (fail)));refine wpQuiet_nil ?_;intro _ hw';obtain ⟨⟨dq,osq⟩,hw''⟩:=hw';subst hw''))
  go_ret
  refine ⟨ret_int ?_,Below.refl _ _⟩
  omega
theorem chk_alt (n d:Int) (hd:1≤d) (hn:n ≠ -9223372036854775808):chk n d=if Nat.gcd n.natAbs d.toNat≤1 then 0 else 8:=by
 unfold chk
 rw [Nat.gcd_comm]
 split<;>split<;>first|rfl|omega
theorem rcheck_any (n d:Int) (w:World) (h0 : -9223372036854775808≤n) (h1:n≤9223372036854775807) (h2 : -9223372036854775808≤d) (h3:d≤9223372036854775807) :
  Calls Tryz.prog 65 #[.agg #[.int .i64 n,.int .i64 d]] w fun e w'=>e=.returned (.int .i64 (chk n d))∧Below w.heap.size w w':=by
 by_cases hd:d<1
 ·have hch:chk n d=8:=by unfold chk;rw [if_pos (.inl hd)]
  rw [hch]
  go_enter Tryz.func65,Tryz.ntmps65
  go_wp2_with (first|((with_reducible refine wp_region_quiet_below ?_ ?_ ?_);kernel_rfl;kernel_rfl;(repeat (go_big_quiet_step (fail)));refine wpQuiet_nil ?_;intro _ hw';obtain ⟨⟨dq,osq⟩,hw''⟩:=hw';subst hw''))
  go_ret
  exact ⟨rfl,(by repeat (first|exact Below.refl _ _|refine below_reg ?_ _ _|refine below_alloc ?_ _|exact below_drewN ?_ _|assumption))⟩
 ·have hdf:decide (d<1)=false:=by simpa using hd
  by_cases hm:n = -9223372036854775808
  ·have hch:chk n d=8:=by unfold chk;rw [if_pos (.inr (.inl hm))]
   rw [hch]
   have hmb:(n == -9223372036854775808)=true:=by simpa using hm
   clear hm
   go_enter Tryz.func65,Tryz.ntmps65
   go_wp2_with (first|((with_reducible refine wp_region_quiet_below ?_ ?_ ?_);kernel_rfl;kernel_rfl;(repeat (go_big_quiet_step (fail)));refine wpQuiet_nil ?_;intro _ hw';obtain ⟨⟨dq,osq⟩,hw''⟩:=hw';subst hw''))
   go_ret
   exact ⟨rfl,(by repeat (first|exact Below.refl _ _|refine below_reg ?_ _ _|refine below_alloc ?_ _|exact below_drewN ?_ _|assumption))⟩
  ·have hmb:(n == -9223372036854775808)=false:=by simpa using hm
   rw [chk_alt n d (by omega) hm]
   obtain ⟨e,rfl⟩:=Int.eq_ofNat_of_zero_le (show 0≤d by omega)
   rw [Int.toNat_natCast]
   obtain ⟨g,hg⟩:∃ g,g=Nat.gcd n.natAbs e:=⟨_,rfl⟩
   have HG:=fun w=>rcommon_any n.natAbs e w
   have hg0:0<g:=by rw [hg];exact Nat.gcd_pos_of_pos_right _ (by omega)
   rw [← hg] at HG ⊢
   have HGG:=Lib.hid HG
   clear hg HG hm
   cases hb:((g:Int) != 1)
   ·rw [if_pos (by simp at hb;omega)]
    go_enter Tryz.func65,Tryz.ntmps65
    go_wp2_with (first|(go_at_call 121;(with_reducible refine cmono ?_ (rsize_any _ _ ?_ ?_));rotate_left;omega;omega;rintro e w' ⟨rfl,hbc0⟩;obtain ⟨⟨dc0,osc0⟩,rfl⟩:=regrown_of_below hbc0;clear hbc0)|(go_at_call 120;(with_reducible refine cmono ?_ (HGG.out _));rotate_left;rintro e w' ⟨rfl,hbc1⟩;obtain ⟨⟨dc1,osc1⟩,rfl⟩:=regrown_of_below hbc1;clear hbc1)|((with_reducible refine wp_region_quiet_below ?_ ?_ ?_);kernel_rfl;kernel_rfl;(repeat (go_big_quiet_step (first|(go_at_call 121;(with_reducible refine Calls.regrown_of (rsize_any _ _ ?_ ?_));omega;omega)|(go_at_call 120;(with_reducible refine Calls.regrown_of (HGG.out _))))));refine wpQuiet_nil ?_;intro _ hw';obtain ⟨⟨dq,osq⟩,hw''⟩:=hw';subst hw''))
    go_ret
    exact ⟨rfl,(by repeat (first|exact Below.refl _ _|refine below_reg ?_ _ _|refine below_alloc ?_ _|exact below_drewN ?_ _|assumption))⟩
   ·rw [if_neg (by simp at hb;omega)]
    go_enter Tryz.func65,Tryz.ntmps65
    go_wp2_with (first|(go_at_call 121;(with_reducible refine cmono ?_ (rsize_any _ _ ?_ ?_));rotate_left;omega;omega;rintro e w' ⟨rfl,hbc0⟩;obtain ⟨⟨dc0,osc0⟩,rfl⟩:=regrown_of_below hbc0;clear hbc0)|(go_at_call 120;(with_reducible refine cmono ?_ (HGG.out _));rotate_left;rintro e w' ⟨rfl,hbc1⟩;obtain ⟨⟨dc1,osc1⟩,rfl⟩:=regrown_of_below hbc1;clear hbc1)|((with_reducible refine wp_region_quiet_below ?_ ?_ ?_);kernel_rfl;kernel_rfl;(repeat (go_big_quiet_step (first|(go_at_call 121;(with_reducible refine Calls.regrown_of (rsize_any _ _ ?_ ?_));omega;omega)|(go_at_call 120;(with_reducible refine Calls.regrown_of (HGG.out _))))));refine wpQuiet_nil ?_;intro _ hw';obtain ⟨⟨dq,osq⟩,hw''⟩:=hw';subst hw''))
    go_ret
    exact ⟨rfl,(by repeat (first|exact Below.refl _ _|refine below_reg ?_ _ _|refine below_alloc ?_ _|exact below_drewN ?_ _|assumption))⟩
theorem rasked_any (n d:Int) (w:World) (h0 : -9223372036854775808≤n) (h1:n≤9223372036854775807) (h2 : -9223372036854775808≤d) (h3:d≤9223372036854775807) :
  Calls Tryz.prog 55 #[.agg #[.int .i64 n,.int .i64 d]] w fun e w'=>e=.returned (.int .i64 (askd n d))∧Below w.heap.size w w':=by
 cases ha:decide ((1073741824:Int)<n)<;>cases hb:decide (n < -1073741824)<;>cases hc:decide (1024<d)
 all_goals
  go_enter Tryz.func55,Tryz.ntmps55
  go_wp2_with (first|(go_at_call 65;(with_reducible refine cmono ?_ (rcheck_any _ _ _ ?_ ?_ ?_ ?_));rotate_left;omega;omega;omega;omega;rintro e w' ⟨rfl,hbc0⟩;obtain ⟨⟨dc0,osc0⟩,rfl⟩:=regrown_of_below hbc0;clear hbc0)|((with_reducible refine wp_region_quiet_below ?_ ?_ ?_);kernel_rfl;kernel_rfl;(repeat (go_big_quiet_step (first|(go_at_call 65;(with_reducible refine Calls.regrown_of (rcheck_any _ _ _ ?_ ?_ ?_ ?_));omega;omega;omega;omega))));refine wpQuiet_nil ?_;intro _ hw';obtain ⟨⟨dq,osq⟩,hw''⟩:=hw';subst hw''))
  all_goals (go_ret;refine ⟨ret_int ?_,(by repeat (first|exact Below.refl _ _|refine below_reg ?_ _ _|refine below_alloc ?_ _|exact below_drewN ?_ _|assumption))⟩)
  all_goals (simp only [bne_iff_ne,bne_eq_false_iff_eq,decide_eq_true_eq,decide_eq_false_iff_not,ne_eq] at *)
  all_goals first|(exfalso;omega)|skip
  all_goals (unfold askd;(first|rw [if_pos (by omega)]|rw [if_neg (by omega)]))
  all_goals (first|rfl|(rw [if_pos (by omega)];done)|(rw [if_neg (by omega)];done))
end Go.Proofs.YtfkfficabeclcaaGreatDoor

namespace Go.Proofs.YtfkfficabeclcaaGreatDoor
open Go.RowKit
end Go.Proofs.YtfkfficabeclcaaGreatDoor

namespace Go.Proofs.YtfkfficabeclcaaGreatDoor
open Go.RowKit Go.Sort
end Go.Proofs.YtfkfficabeclcaaGreatDoor

namespace Go.Proofs.YtfkfficabeclcaaGreatDoor
open Go.RowKit Go.Sort
end Go.Proofs.YtfkfficabeclcaaGreatDoor

namespace Go.Proofs.YtfkfficabeclcaaGreatDoor
open Go.RowKit
end Go.Proofs.YtfkfficabeclcaaGreatDoor

namespace Go.Proofs.YtfkfficabeclcaaGreatDoor
open Go.RowKit Go.Sort
end Go.Proofs.YtfkfficabeclcaaGreatDoor

namespace Go.Proofs.YtfkfficabeclcaaGreatDoor
open Go.RowKit Go.Sort
end Go.Proofs.YtfkfficabeclcaaGreatDoor

namespace Go.Proofs.YtfkfficabeclcaaGreatDoor
open Go.RowKit
def qv (n d:Int):Rat:=mkRat n d.toNat
theorem chk_iff (n d:Int):chk n d=0↔1≤d∧n ≠ -9223372036854775808∧n.natAbs.Coprime d.toNat:=by
 unfold chk Nat.Coprime
 rw [Nat.gcd_comm n.natAbs]
 have hg:1≤d→0<Nat.gcd d.toNat n.natAbs:=fun h=>Nat.gcd_pos_of_pos_left _ (by omega)
 split
 ·rename_i h
  constructor
  ·intro h';omega
  ·rintro ⟨h1,h2,h3⟩;exfalso;omega
 ·rename_i h
  have h1:1≤d:=by omega
  have:=hg h1
  exact ⟨fun _=>⟨h1,by omega,by omega⟩,fun _=>rfl⟩
theorem qv_num {n d:Int} (h:chk n d=0):(qv n d).num=n:=by
 obtain ⟨h1,_,h3⟩:=(chk_iff n d).1 h
 unfold qv
 rw [Rat.num_mkRat,if_neg (by omega),Nat.gcd_comm,show Nat.gcd n.natAbs d.toNat=1 from h3]
 simp
theorem qv_den {n d:Int} (h:chk n d=0):((qv n d).den:Int)=d:=by
 obtain ⟨h1,_,h3⟩:=(chk_iff n d).1 h
 unfold qv
 rw [Rat.den_mkRat,if_neg (by omega),Nat.gcd_comm,show Nat.gcd n.natAbs d.toNat=1 from h3]
 omega
theorem qv_den' {n d:Int} (h:chk n d=0):(qv n d).den=d.toNat:=by have:=qv_den h;omega
def outQ (q:Rat):Int × Int × Int:=if q.num.natAbs≤9223372036854775807∧q.den≤9223372036854775807 then (q.num,q.den,0) else (0,0,16)
theorem build_q (neg:Bool) (m d:Nat) (q:Rat) (hd:d=q.den) (hm:m=q.num.natAbs) (hs:q.num≠0→neg=decide (q.num<0)):buildN neg m d=outQ q:=by
 unfold buildN outQ
 subst hd hm
 split
 ·have:(if neg=true then -(q.num.natAbs:Int) else (q.num.natAbs:Int))=q.num:=by
   by_cases h0:q.num=0
   ·rw [h0];simp
   ·rw [hs h0]
    by_cases hn:q.num<0
    ·rw [decide_eq_true hn,if_pos rfl];omega
    ·rw [decide_eq_false hn,if_neg (by simp)];omega
  rw [this]
 ·rfl
theorem plus_rep (p r:Int) (x y:Nat):plusM (decide (p<0)) (decide (r<0)) (p.natAbs*x) (r.natAbs*y)=(p*x+r*y).natAbs ∧
  (p*x+r*y≠0→plusS (decide (p<0)) (decide (r<0)) (p.natAbs*x) (r.natAbs*y)=decide (p*x+r*y<0)):=by
 have e1:p.natAbs*x=(p*x).natAbs:=by rw [Int.natAbs_mul,Int.natAbs_natCast]
 have e2:r.natAbs*y=(r*y).natAbs:=by rw [Int.natAbs_mul,Int.natAbs_natCast]
 have s1:p*x<0→p<0:=fun h=>by
  rcases (show p<0∨0≤p by omega) with h'|h'
  ·exact h'
  ·have:=Int.mul_nonneg h' (show (0:Int)≤x by omega);omega
 have s2:r*y<0→r<0:=fun h=>by
  rcases (show r<0∨0≤r by omega) with h'|h'
  ·exact h'
  ·have:=Int.mul_nonneg h' (show (0:Int)≤y by omega);omega
 have t1:0<p*x→¬ p<0:=fun h h'=>by
  have:=Int.mul_nonpos_of_nonpos_of_nonneg (show p≤0 by omega) (show (0:Int)≤x by omega);omega
 have t2:0<r*y→¬ r<0:=fun h h'=>by
  have:=Int.mul_nonpos_of_nonpos_of_nonneg (show r≤0 by omega) (show (0:Int)≤y by omega);omega
 rw [e1,e2]
 generalize p*(x:Int)=X at *
 generalize r*(y:Int)=Y at *
 unfold plusM plusS
 by_cases hp:p<0<;>by_cases hr:r<0
 all_goals
  simp only [hp,hr,decide_true,decide_false,if_true,reduceIte,Bool.false_eq_true,Bool.true_eq_false]
  simp only [hp,hr,imp_false,not_true_eq_false,not_false_eq_true,implies_true] at s1 s2 t1 t2
  refine ⟨?_,fun hne => ?_⟩
 all_goals (repeat' split)
 all_goals first|omega|(symm;rw [decide_eq_true_eq];omega)|(symm;rw [decide_eq_false_iff_not];omega)
theorem addR_q {p q r t:Int} (h1:chk p q=0) (h2:chk r t=0):addR p q.toNat r t.toNat=outQ (qv p q+qv r t):=by
 obtain ⟨a1,a2,a3⟩:=(chk_iff p q).1 h1
 obtain ⟨b1,b2,b3⟩:=(chk_iff r t).1 h2
 have haux:=Rat.add.aux (qv p q) (qv r t) rfl rfl rfl
 have hsum:=Rat.add_def' (qv p q) (qv r t)
 rw [qv_num h1,qv_num h2,qv_den' h1,qv_den' h2] at haux hsum
 obtain ⟨Q,hQ⟩:∃ Q,Q=q.toNat:=⟨_,rfl⟩
 obtain ⟨T,hT⟩:∃ T,T=t.toNat:=⟨_,rfl⟩
 rw [← hQ,← hT] at haux hsum ⊢
 have q0:0<Q:=by omega
 have t0:0<T:=by omega
 unfold addR
 obtain ⟨c1,c2⟩:=plus_rep p r (T / Nat.gcd Q T) (Q / Nat.gcd Q T)
 rw [c1]
 have g0:0<Nat.gcd Q T:=Nat.gcd_pos_of_pos_left _ q0
 have gq:Nat.gcd Q T ∣ Q:=Nat.gcd_dvd_left _ _
 have gt:Nat.gcd Q T ∣ T:=Nat.gcd_dvd_right _ _
 generalize Nat.gcd Q T=g at *
 obtain ⟨y,rfl⟩:=gq
 obtain ⟨x,rfl⟩:=gt
 rw [Nat.mul_div_cancel_left _ g0,Nat.mul_div_cancel_left _ g0] at *
 have e:qv p q+qv r t=mkRat (p*x+r*y) (y*(g*x)):=by
  rw [hsum]
  have n1:p*((g*x:Nat):Int)+r*((g*y:Nat):Int)=(p*x+r*y)*(g:Int):=by
   rw [Int.natCast_mul,Int.natCast_mul,Int.add_mul,Int.mul_left_comm,Int.mul_comm (g:Int),Int.mul_left_comm r,Int.mul_comm (g:Int)]
  have n2:g*y*(g*x)=y*(g*x)*g:=by
   rw [Nat.mul_comm g y,Nat.mul_assoc,Nat.mul_assoc,Nat.mul_comm g (g*x)]
  rw [n1,n2]
  exact Rat.mkRat_mul_right (by omega)
 generalize hN:p*(x:Int)+r*(y:Int)=N at *
 have hh:Nat.gcd g (N.natAbs % g)=Nat.gcd (y*(g*x)) N.natAbs:=by
  rw [Nat.gcd_comm (y*(g*x)),← haux,Nat.gcd_comm N.natAbs g,Nat.gcd_rec g N.natAbs,Nat.gcd_comm]
 have hd0:y*(g*x)≠0:=by
  intro h0
  rcases Nat.mul_eq_zero.1 h0 with h0|h0
  ·subst h0;simp at q0
  ·omega
 have dg:Nat.gcd g (N.natAbs % g) ∣ g:=Nat.gcd_dvd_left _ _
 refine build_q _ _ _ _ ?_ ?_ ?_
 ·rw [e,Rat.den_mkRat,if_neg hd0,← hh]
  exact (Nat.mul_div_assoc _ (Nat.dvd_trans dg (Nat.dvd_mul_right _ _))).symm
 ·rw [e,Rat.num_mkRat,if_neg hd0,← hh]
  rw [Int.natAbs_ediv_of_dvd]
  ·simp
  ·rw [hh,← Int.dvd_natAbs,Int.ofNat_dvd]
   exact Nat.gcd_dvd_right _ _
 ·rw [e,Rat.num_mkRat,if_neg hd0,← hh]
  have hdv:((Nat.gcd g (N.natAbs % g):Nat):Int) ∣ N:=by
   rw [hh,← Int.dvd_natAbs,Int.ofNat_dvd]
   exact Nat.gcd_dvd_right _ _
  have hpos:(0:Int)<(Nat.gcd g (N.natAbs % g):Nat):=by
   have:=Nat.gcd_pos_of_pos_left (N.natAbs % g) g0
   omega
  intro hne
  obtain ⟨k,hk⟩:=hdv
  generalize ((Nat.gcd g (N.natAbs % g):Nat):Int)=G at *
  subst hk
  rw [Int.mul_ediv_cancel_left _ (by omega)] at hne ⊢
  rw [c2 (by intro h0;rcases Int.mul_eq_zero.1 h0 with h0|h0<;>omega)]
  have:G*k<0↔k<0:=by
   constructor
   ·intro h
    rcases (show k<0∨0≤k by omega) with h'|h'
    ·exact h'
    ·have:=Int.mul_nonneg (Int.le_of_lt hpos) h';omega
   ·intro h
    exact Int.mul_neg_of_pos_of_neg hpos h
  rw [decide_eq_decide]
  exact this
theorem tdiv_gcd (n:Int) (k:Nat):n.tdiv (Nat.gcd n.natAbs k:Nat)=n / (Nat.gcd n.natAbs k:Nat):=by
 refine Int.tdiv_eq_ediv_of_dvd ?_
 rw [← Int.dvd_natAbs,Int.ofNat_dvd]
 exact Nat.gcd_dvd_left _ _
theorem rat_mul_parts (a b:Rat):(a*b).num=a.num.tdiv (Nat.gcd a.num.natAbs b.den)*b.num.tdiv (Nat.gcd b.num.natAbs a.den)∧(a*b).den=a.den / Nat.gcd b.num.natAbs a.den*(b.den / Nat.gcd a.num.natAbs b.den):=by
 have h:a*b=Rat.mul a b:=rfl
 rw [h]
 unfold Rat.mul
 rw [tdiv_gcd,tdiv_gcd]
 constructor<;>simp
theorem mulR_q {p q r t:Int} (h1:chk p q=0) (h2:chk r t=0):mulR p q.toNat r t.toNat=outQ (qv p q*qv r t):=by
 obtain ⟨m1,m2⟩:=rat_mul_parts (qv p q) (qv r t)
 rw [qv_num h1,qv_num h2,qv_den' h1,qv_den' h2] at m1 m2
 obtain ⟨a1,a2,a3⟩:=(chk_iff p q).1 h1
 obtain ⟨b1,b2,b3⟩:=(chk_iff r t).1 h2
 unfold mulR
 rw [Nat.gcd_comm t.toNat,Nat.gcd_comm q.toNat]
 refine build_q _ _ _ _ ?_ ?_ ?_
 ·rw [m2]
 ·rw [m1,Int.natAbs_mul]
 ·rw [m1]
  generalize p.tdiv (Nat.gcd p.natAbs t.toNat:Nat)=X
  generalize r.tdiv (Nat.gcd r.natAbs q.toNat:Nat)=Y
  intro hne
  rcases Int.lt_trichotomy X 0 with hx|hx|hx<;>rcases Int.lt_trichotomy Y 0 with hy|hy|hy
  ·have:=Int.mul_pos_of_neg_of_neg hx hy
   rw [decide_eq_true hx,decide_eq_true hy,decide_eq_false (by omega)];rfl
  ·subst hy;simp at hne
  ·have:=Int.mul_neg_of_neg_of_pos hx hy
   rw [decide_eq_true hx,decide_eq_false (show ¬ Y<0 by omega),decide_eq_true this];rfl
  ·subst hx;simp at hne
  ·subst hx;simp at hne
  ·subst hx;simp at hne
  ·have:=Int.mul_neg_of_pos_of_neg hx hy
   rw [decide_eq_false (show ¬ X<0 by omega),decide_eq_true hy,decide_eq_true this];rfl
  ·subst hy;simp at hne
  ·have:=Int.mul_pos hx hy
   rw [decide_eq_false (show ¬ X<0 by omega),decide_eq_false (show ¬ Y<0 by omega),decide_eq_false (by omega)];rfl
theorem addV_q {p q r t:Int} (h1:chk p q=0) (h2:chk r t=0):addV p q r t=outQ (qv p q+qv r t):=by
 unfold addV
 rw [if_pos (by unfold bth;rw [if_pos h1,h2]),addR_q h1 h2]
theorem mulV_q {p q r t:Int} (h1:chk p q=0) (h2:chk r t=0):mulV p q r t=outQ (qv p q*qv r t):=by
 unfold mulV
 rw [if_pos (by unfold bth;rw [if_pos h1,h2]),mulR_q h1 h2]
theorem chk_neg {r t:Int} (h:chk r t=0) (hr:r≤9223372036854775807):chk (-r) t=0:=by
 obtain ⟨b1,b2,b3⟩:=(chk_iff r t).1 h
 exact (chk_iff _ _).2 ⟨b1,by omega,by rw [Int.natAbs_neg];exact b3⟩
theorem qv_neg (r t:Int):qv (-r) t = -qv r t:=by unfold qv;rw [Rat.neg_mkRat]
theorem subV_q {p q r t:Int} (h1:chk p q=0) (h2:chk r t=0) (hr:r≤9223372036854775807):subV p q r t=outQ (qv p q-qv r t):=by
 unfold subV
 rw [if_pos (by unfold bth;rw [if_pos h1,h2]),addV_q h1 (chk_neg h2 hr),qv_neg,Rat.sub_eq_add_neg]
theorem chk_rat (q:Rat) (h:q.num.natAbs≤9223372036854775807):chk q.num q.den=0 :=
 (chk_iff _ _).2 ⟨by have:=q.den_pos;omega,by omega,by rw [Int.toNat_natCast];exact q.reduced⟩
theorem qv_rat (q:Rat):qv q.num q.den=q:=by unfold qv;rw [Int.toNat_natCast,Rat.mkRat_self]
end Go.Proofs.YtfkfficabeclcaaGreatDoor

namespace Go.Proofs.YtfkfficabeclcaaGreatDoor
open Go.RowKit Go.Sort
theorem buildN_zero (x y:Bool) (d:Nat):buildN x 0 d=buildN y 0 d:=by unfold buildN;cases x<;>cases y<;>simp
end Go.Proofs.YtfkfficabeclcaaGreatDoor

namespace Go.Proofs.YtfkfficabeclcaaGreatDoor
open Go.RowKit Go.Sort
end Go.Proofs.YtfkfficabeclcaaGreatDoor

namespace Go.Proofs.YtfkfficabeclcaaGreatDoor
open Go.RowKit
theorem tri (a b:Rat):a<b∨a=b∨b<a:=by
 rcases Rat.le_total (a:=a) (b:=b) with h|h
 ·rcases Rat.le_iff_lt_or_eq.1 h with h|h
  ·exact .inl h
  ·exact .inr (.inl h)
 ·rcases Rat.le_iff_lt_or_eq.1 h with h|h
  ·exact .inr (.inr h)
  ·exact .inr (.inl h.symm)
theorem qv_inj {p q r t:Int} (h1:chk p q=0) (h2:chk r t=0):qv p q=qv r t↔p=r∧q=t:=by
 constructor
 ·intro h
  have e1:=qv_num h1
  have e2:=qv_den h1
  rw [h,qv_num h2] at e1
  rw [h,qv_den h2] at e2
  exact ⟨e1.symm,e2.symm⟩
 ·rintro ⟨rfl,rfl⟩;rfl
end Go.Proofs.YtfkfficabeclcaaGreatDoor

namespace Go.Proofs.YtfkfficabeclcaaGreatDoor
open Go.RowKit Go.Sort Sx
abbrev i64 (n:Int):D:=.v (.int .i64 n)
abbrev u64 (n:Int):D:=.v (.int .u64 n)
abbrev bol (b:Bool):D:=.v (.bool b)
theorem wd_i64 {n:Int}:WD (i64 n) ↔ -9223372036854775808≤n∧n≤9223372036854775807:=WD_v
theorem wd_u64 {n:Int}:WD (u64 n)↔0≤n∧n≤18446744073709551615:=WD_v
theorem wd1 {n d:Int} (h:WDCs [.agg [i64 n,i64 d]]) : -9223372036854775808≤n∧n≤9223372036854775807 ∧ -9223372036854775808≤d∧d≤9223372036854775807:=by
 simp only [WDCs,WDC,WDs,wd_i64] at h;omega
theorem wd2 {n d m e:Int} (h:WDCs [.agg [i64 n,i64 d],.agg [i64 m,i64 e]]):(-9223372036854775808≤n∧n≤9223372036854775807 ∧ -9223372036854775808≤d∧d≤9223372036854775807)∧(-9223372036854775808≤m∧m≤9223372036854775807 ∧ -9223372036854775808≤e∧e≤9223372036854775807):=by
 simp only [WDCs,WDC,WDs,wd_i64] at h;omega
theorem wdii {n m:Int} (h:WDCs [.one (i64 n),.one (i64 m)]) : -9223372036854775808≤n∧n≤9223372036854775807 ∧ -9223372036854775808≤m∧m≤9223372036854775807:=by
 simp only [WDCs,WDC,WDs,wd_i64] at h;omega
theorem cmpN_rng (a b:Int) : -1≤cmpN a b∧cmpN a b≤1:=by unfold cmpN;(repeat' split)<;>omega
theorem buildN_rng (x:Bool) (m n:Nat):(-9223372036854775807≤(buildN x m n).1∧(buildN x m n).1≤9223372036854775807)∧(0≤(buildN x m n).2.1∧(buildN x m n).2.1≤9223372036854775807)∧(0≤(buildN x m n).2.2∧(buildN x m n).2.2≤16):=by
 unfold buildN;split
 ·cases x<;>simp<;>omega
 ·simp
theorem askd_rng (n d:Int):0≤askd n d∧askd n d≤8:=by
 unfold askd
 rcases chk_08 n d with h|h<;>rw [h]<;>simp<;>(try split)<;>omega
theorem addV_rng (p q r t:Int):(-9223372036854775807≤(addV p q r t).1∧(addV p q r t).1≤9223372036854775807)∧(0≤(addV p q r t).2.1∧(addV p q r t).2.1≤9223372036854775807)∧(0≤(addV p q r t).2.2∧(addV p q r t).2.2≤16):=by
 unfold addV;split
 ·unfold addR;exact buildN_rng _ _ _
 ·simp
theorem mulV_rng (p q r t:Int):(-9223372036854775807≤(mulV p q r t).1∧(mulV p q r t).1≤9223372036854775807)∧(0≤(mulV p q r t).2.1∧(mulV p q r t).2.1≤9223372036854775807)∧(0≤(mulV p q r t).2.2∧(mulV p q r t).2.2≤16):=by
 unfold mulV;split
 ·unfold mulR;exact buildN_rng _ _ _
 ·simp
theorem subV_rng (p q r t:Int):(-9223372036854775807≤(subV p q r t).1∧(subV p q r t).1≤9223372036854775807)∧(0≤(subV p q r t).2.1∧(subV p q r t).2.1≤9223372036854775807)∧(0≤(subV p q r t).2.2∧(subV p q r t).2.2≤16):=by
 unfold subV;split
 ·exact addV_rng _ _ _ _
 ·simp
theorem makeV_rng (n d:Int):(-9223372036854775807≤(makeV n d).1∧(makeV n d).1≤9223372036854775807)∧(0≤(makeV n d).2.1∧(makeV n d).2.1≤9223372036854775807)∧(0≤(makeV n d).2.2∧(makeV n d).2.2≤26):=by
 unfold makeV;split
 ·simp
 ·have:=buildN_rng (!(decide (n<0) == decide (d<0))) (n.natAbs / Nat.gcd n.natAbs d.natAbs) (d.natAbs / Nat.gcd n.natAbs d.natAbs)
  omega
abbrev rat2 (p q r t:Int):List DC:=[.agg [i64 p,i64 q],.agg [i64 r,i64 t]]
abbrev ret3 (x:Int × Int × Int):DV:=.tup [.agg [i64 x.1,i64 x.2.1],.one (i64 x.2.2)]
abbrev ret2 (x:Int × Int):DV:=.tup [.one (i64 x.1),.one (i64 x.2)]
abbrev ret1 (x:Int):DV:=.c (.one (i64 x))
theorem cmp_fn (p q r t:Int):FnOK Tryz.prog 103 (rat2 p q r t) (ret2 (cmpV p q r t)):=by
 refine fn_of_calls (fun _ _=>Tryz.call103 _ _) rfl rfl (fun h => ?_) (fun h w => ?_)
 ·simp only [WDV,WDCs,WDC,wd_i64,and_true]
  unfold cmpV
  have:=cmpN_rng (p*t) (r*q)
  split<;>simp<;>omega
 ·obtain ⟨⟨_,_,_,_⟩,_,_,_,_⟩:=wd2 h
  exact cmp_any p q r t w (by omega) (by omega) (by omega) (by omega) (by omega) (by omega) (by omega) (by omega)
theorem sub_fn (p q r t:Int):FnOK Tryz.prog 89 (rat2 p q r t) (ret3 (subV p q r t)):=by
 refine fn_of_calls (fun _ _=>Tryz.call89 _ _) rfl rfl (fun h => ?_) (fun h w => ?_)
 ·simp only [WDV,WDCs,WDC,WDs,wd_i64,and_true]
  have:=subV_rng p q r t
  omega
 ·obtain ⟨⟨_,_,_,_⟩,_,_,_,_⟩:=wd2 h
  exact sub_any p q r t w (by omega) (by omega) (by omega) (by omega) (by omega) (by omega) (by omega) (by omega)
theorem mul_fn (p q r t:Int):FnOK Tryz.prog 88 (rat2 p q r t) (ret3 (mulV p q r t)):=by
 refine fn_of_calls (fun _ _=>Tryz.call88 _ _) rfl rfl (fun h => ?_) (fun h w => ?_)
 ·simp only [WDV,WDCs,WDC,WDs,wd_i64,and_true]
  have:=mulV_rng p q r t
  omega
 ·obtain ⟨⟨_,_,_,_⟩,_,_,_,_⟩:=wd2 h
  exact mul_any p q r t w (by omega) (by omega) (by omega) (by omega) (by omega) (by omega) (by omega) (by omega)
theorem make_fn (n d:Int):FnOK Tryz.prog 238 [.one (i64 n),.one (i64 d)] (ret3 (makeV n d)):=by
 refine fn_of_calls (fun _ _=>Tryz.call238 _ _) rfl rfl (fun h => ?_) (fun h w => ?_)
 ·simp only [WDV,WDCs,WDC,WDs,wd_i64,and_true]
  have:=makeV_rng n d
  omega
 ·obtain ⟨_,_,_,_⟩:=wdii h
  exact makeV_any n d w (by omega) (by omega) (by omega) (by omega)
theorem check_fn (n d:Int):FnOK Tryz.prog 40 [.agg [i64 n,i64 d]] (ret1 (chk n d)):=by
 refine fn_of_calls (fun _ _=>Tryz.call40 _ _) rfl rfl (fun h => ?_) (fun h w => ?_)
 ·simp only [WDV,WDCs,WDC,WDs,wd_i64,and_true]
  rcases chk_08 n d with h|h<;>omega
 ·obtain ⟨_,_,_,_⟩:=wd1 h
  exact check_any n d w (by omega) (by omega) (by omega) (by omega)
theorem asked_fn (n d:Int):FnOK Tryz.prog 67 [.agg [i64 n,i64 d]] (ret1 (askd n d)):=by
 refine fn_of_calls (fun _ _=>Tryz.call67 _ _) rfl rfl (fun h => ?_) (fun h w => ?_)
 ·simp only [WDV,WDCs,WDC,WDs,wd_i64,and_true]
  have:=askd_rng n d
  omega
 ·obtain ⟨_,_,_,_⟩:=wd1 h
  exact asked_any n d w (by omega) (by omega) (by omega) (by omega)
theorem rasked_fn (n d:Int):FnOK Tryz.prog 55 [.agg [i64 n,i64 d]] (ret1 (askd n d)):=by
 refine fn_of_calls (fun _ _=>Tryz.call55 _ _) rfl rfl (fun h => ?_) (fun h w => ?_)
 ·simp only [WDV,WDCs,WDC,WDs,wd_i64,and_true]
  have:=askd_rng n d
  omega
 ·obtain ⟨_,_,_,_⟩:=wd1 h
  exact rasked_any n d w (by omega) (by omega) (by omega) (by omega)
end Go.Proofs.YtfkfficabeclcaaGreatDoor

namespace Go.Proofs.YtfkfficabeclcaaGreatDoor
open Go.RowKit Go.Sort Sx
theorem gcd_fnd (a b:Nat):FnD Tryz.prog 80 [.one (u64 a),.one (u64 b)] (.c (.one (u64 (Nat.gcd a b:Nat)))):=by
 refine fn_okD (by kernel_rfl) ty_okD rfl Tryz.func80 rfl (fun _ _=>Tryz.call80 _ _) rfl ?_
 intro hw
 simp only [WDCs,WDC,wd_u64] at hw
 repeat' ((conv=>whnf);first|(with_reducible first|refine br_t ?_|refine br_f ?_|refine zd ?_|refine za ?_|refine zg ?_)|refine zp ?_|refine zq ?_|(with_reducible first|refine bc (fun h => ?_) (fun h => ?_)|refine zt ?_|refine zf ?_|refine br_i (fun h => ?_) (fun h => ?_))|refine zg ?_|refine zi ?_|refine zb ?_)
 refine loop_J (by kernel_rfl) ty_okD (σ:=Nat × Nat) (fun s=>[(0,sV (.int .u64 s.1)),(1,sV (.int .u64 s.2))]) (fun _=>[]) (fun s=>s.1≤18446744073709551615∧s.2≤18446744073709551615∧Nat.gcd s.1 s.2=Nat.gcd a b) (fun s=>s.2) (a,b) ⟨by show a≤_;omega,by show b≤_;omega,rfl⟩ ?_ ?_
 ·(conv=>whnf);exact zent
 rintro ⟨n,m⟩ ⟨h1,h2,h3⟩
 simp only at h1 h2 h3
 rcases Nat.eq_zero_or_pos m with h0|h0
 ·subst h0
  rw [Nat.gcd_zero_right] at h3
  rw [← h3]
  repeat' ((conv=>whnf);first|(with_reducible first|refine br_t ?_|refine br_f ?_|refine zd ?_|refine za ?_|refine zg ?_)|refine zp ?_|refine zq ?_|(with_reducible first|refine bc (fun h => ?_) (fun h => ?_)|refine zt ?_|refine zf ?_|refine br_i (fun h => ?_) (fun h => ?_))|refine zg ?_|refine zi ?_|refine zb ?_)
  all_goals conv=>whnf
  all_goals rfl
 ·have hne:(m:Int)≠0:=by omega
  have hlt:=Nat.mod_lt n h0
  have e1:IntKind.u64.wrap ((n:Int).tmod (m:Int))=((n % m:Nat):Int):=by rw [← Int.ofNat_tmod,IntKind.wrap_u64];generalize n % m=k at *;omega
  repeat' ((conv=>whnf);first|(with_reducible first|refine br_t ?_|refine br_f ?_|refine zd ?_|refine za ?_|refine zg ?_)|refine zp ?_|refine zq ?_|(with_reducible first|refine bc (fun h => ?_) (fun h => ?_)|refine zt ?_|refine zf ?_|refine br_i (fun h => ?_) (fun h => ?_))|refine zg ?_|refine zi ?_|refine zb ?_)
  all_goals conv=>whnf
  refine ⟨(m,n % m),⟨h2,by show n % m≤_;omega,by show Nat.gcd m (n % m)=_;rw [← h3,Nat.gcd_comm n m,Nat.gcd_rec m n,Nat.gcd_comm]⟩,?_,hlt⟩
  (conv=>whnf);exact zent
theorem abs_fnd (n:Int):FnD Tryz.prog 81 [.one (i64 n)] (.c (.one (u64 (n.natAbs:Nat)))):=by
 refine fn_okD (by kernel_rfl) ty_okD rfl Tryz.func81 rfl (fun _ _=>Tryz.call81 _ _) rfl ?_
 intro hw
 simp only [WDCs,WDC,wd_i64] at hw
 by_cases h:n<0
 all_goals
  repeat' ((conv=>whnf);first|(with_reducible first|refine br_t ?_|refine br_f ?_|refine zd ?_|refine za ?_|refine zg ?_)|refine zp ?_|refine zq ?_|(with_reducible first|refine bc (fun h => ?_) (fun h => ?_)|refine zt ?_|refine zf ?_|refine br_i (fun h => ?_) (fun h => ?_))|refine zg ?_|refine zi ?_|refine zb ?_)
  all_goals conv=>whnf
  all_goals
   refine r_int ?_
   simp only [IntKind.wrap_u64]
   omega
theorem check_fnd (n d:Int):FnD Tryz.prog 40 [.agg [i64 n,i64 d]] (ret1 (chk n d)):=by
 refine fn_okD (by kernel_rfl) ty_okD rfl Tryz.func40 rfl (fun _ _=>Tryz.call40 _ _) rfl ?_
 intro hw
 simp only [WDCs,WDC,WDs,wd_i64] at hw
 unfold chk
 by_cases h1:d<1
 ·rw [if_pos (.inl h1)]
  repeat' ((conv=>whnf);first|(with_reducible first|refine br_t ?_|refine br_f ?_|refine zd ?_|refine za ?_|refine zg ?_)|refine zp ?_|refine zq ?_|(with_reducible first|refine bc (fun h => ?_) (fun h => ?_)|refine zt ?_|refine zf ?_|refine br_i (fun h => ?_) (fun h => ?_))|refine zg ?_|refine zi ?_|refine zb ?_)
  all_goals conv=>whnf
  all_goals rfl
 ·by_cases h2:n = -9223372036854775808
  ·rw [if_pos (.inr (.inl h2))]
   repeat' ((conv=>whnf);first|(with_reducible first|refine br_t ?_|refine br_f ?_|refine zd ?_|refine za ?_|refine zg ?_)|refine zp ?_|refine zq ?_|(with_reducible first|refine bc (fun h => ?_) (fun h => ?_)|refine zt ?_|refine zf ?_|refine br_i (fun h => ?_) (fun h => ?_))|refine zg ?_|refine zi ?_|refine zb ?_)
   all_goals conv=>whnf
   all_goals rfl
  ·obtain ⟨e,rfl⟩:=Int.eq_ofNat_of_zero_le (show 0≤d by omega)
   have ew:IntKind.u64.wrap (e:Int)=e:=by rw [IntKind.wrap_u64];omega
   have H1:=abs_fnd n
   have H2:FnD Tryz.prog 80 [.one (u64 (IntKind.u64.wrap (e:Int))),.one (u64 (n.natAbs:Nat))] (.c (.one (u64 (Nat.gcd e n.natAbs:Nat)))):=by rw [ew];exact gcd_fnd e n.natAbs
   rw [Int.toNat_natCast]
   generalize Nat.gcd e n.natAbs=g at *
   generalize n.natAbs=m at *
   by_cases h3:1<g
   ·rw [if_pos (.inr (.inr h3))]
    repeat' ((conv=>whnf);first|(with_reducible first|refine br_t ?_|refine br_f ?_|refine zd ?_|refine za ?_|refine zg ?_)|refine zp ?_|refine zq ?_|(with_reducible first|refine bc (fun h => ?_) (fun h => ?_)|refine zt ?_|refine zf ?_|refine br_i (fun h => ?_) (fun h => ?_))|refine zg ?_|refine zi ?_|refine zb ?_)
    all_goals conv=>whnf
    all_goals rfl
   ·rw [if_neg (by simp only [not_or];exact ⟨h1,h2,h3⟩)]
    repeat' ((conv=>whnf);first|(with_reducible first|refine br_t ?_|refine br_f ?_|refine zd ?_|refine za ?_|refine zg ?_)|refine zp ?_|refine zq ?_|(with_reducible first|refine bc (fun h => ?_) (fun h => ?_)|refine zt ?_|refine zf ?_|refine br_i (fun h => ?_) (fun h => ?_))|refine zg ?_|refine zi ?_|refine zb ?_)
    all_goals conv=>whnf
    all_goals rfl
theorem both_fnd (p q r t:Int):FnD Tryz.prog 141 (rat2 p q r t) (ret1 (bth p q r t)):=by
 refine fn_okD (by kernel_rfl) ty_okD rfl Tryz.func141 rfl (fun _ _=>Tryz.call141 _ _) rfl ?_
 intro hw
 clear hw
 have H1:=check_fnd p q
 have H2:=check_fnd r t
 have e:bth p q r t=if chk p q<chk r t then chk r t else chk p q:=by
  unfold bth
  rcases chk_08 p q with h1|h1<;>rcases chk_08 r t with h2|h2<;>rw [h1,h2]<;>decide
 rw [e]
 generalize chk p q=x at *
 generalize chk r t=y at *
 repeat' ((conv=>whnf);first|(with_reducible first|refine br_t ?_|refine br_f ?_|refine zd ?_|refine za ?_|refine zg ?_)|refine zp ?_|refine zq ?_|(with_reducible first|refine bc (fun h => ?_) (fun h => ?_)|refine zt ?_|refine zf ?_|refine br_i (fun h => ?_) (fun h => ?_))|refine zg ?_|refine zi ?_|refine zb ?_)
 all_goals conv=>whnf
 all_goals exact r_int (by unfold maxI;(repeat' split)<;>omega)
theorem nani_fnd (n:Int):FnD Tryz.prog 212 [.one (i64 n)] (.c (.one (bol false))):=by
 refine fn_okD (by kernel_rfl) ty_okD rfl Tryz.func212 rfl (fun _ _=>Tryz.call212 _ _) rfl ?_
 intro hw
 repeat' ((conv=>whnf);first|(with_reducible first|refine br_t ?_|refine br_f ?_|refine zd ?_|refine za ?_|refine zg ?_)|refine zp ?_|refine zq ?_|(with_reducible first|refine bc (fun h => ?_) (fun h => ?_)|refine zt ?_|refine zf ?_|refine br_i (fun h => ?_) (fun h => ?_))|refine zg ?_|refine zi ?_|refine zb ?_)
 all_goals conv=>whnf
 all_goals first|rfl|exact r_bool (by simp)
theorem cmpi_fnd (a b:Int):FnD Tryz.prog 162 [.one (i64 a),.one (i64 b)] (ret1 (cmpN a b)):=by
 refine fn_okD (by kernel_rfl) ty_okD rfl Tryz.func162 rfl (fun _ _=>Tryz.call162 _ _) rfl ?_
 intro hw
 have H1:=nani_fnd a
 have H2:=nani_fnd b
 repeat' ((conv=>whnf);first|(with_reducible first|refine br_t ?_|refine br_f ?_|refine zd ?_|refine za ?_|refine zg ?_)|refine zp ?_|refine zq ?_|(with_reducible first|refine bc (fun h => ?_) (fun h => ?_)|refine zt ?_|refine zf ?_|refine br_i (fun h => ?_) (fun h => ?_))|refine zg ?_|refine zi ?_|refine zb ?_)
 all_goals conv=>whnf
 all_goals
  refine r_int ?_
  unfold cmpN
  (repeat' split)<;>omega
theorem nanu_fnd (n:Int):FnD Tryz.prog 241 [.one (u64 n)] (.c (.one (bol false))):=by
 refine fn_okD (by kernel_rfl) ty_okD rfl Tryz.func241 rfl (fun _ _=>Tryz.call241 _ _) rfl ?_
 intro hw
 repeat' ((conv=>whnf);first|(with_reducible first|refine br_t ?_|refine br_f ?_|refine zd ?_|refine za ?_|refine zg ?_)|refine zp ?_|refine zq ?_|(with_reducible first|refine bc (fun h => ?_) (fun h => ?_)|refine zt ?_|refine zf ?_|refine br_i (fun h => ?_) (fun h => ?_))|refine zg ?_|refine zi ?_|refine zb ?_)
 all_goals conv=>whnf
 all_goals first|rfl|exact r_bool (by simp)
theorem cmpu_fnd (a b:Int):FnD Tryz.prog 213 [.one (u64 a),.one (u64 b)] (ret1 (cmpN a b)):=by
 refine fn_okD (by kernel_rfl) ty_okD rfl Tryz.func213 rfl (fun _ _=>Tryz.call213 _ _) rfl ?_
 intro hw
 have H1:=nanu_fnd a
 have H2:=nanu_fnd b
 repeat' ((conv=>whnf);first|(with_reducible first|refine br_t ?_|refine br_f ?_|refine zd ?_|refine za ?_|refine zg ?_)|refine zp ?_|refine zq ?_|(with_reducible first|refine bc (fun h => ?_) (fun h => ?_)|refine zt ?_|refine zf ?_|refine br_i (fun h => ?_) (fun h => ?_))|refine zg ?_|refine zi ?_|refine zb ?_)
 all_goals conv=>whnf
 all_goals
  refine r_int ?_
  unfold cmpN
  (repeat' split)<;>omega
theorem mul64_fnd (X Y:Nat):FnD Tryz.prog 126 [.one (u64 X),.one (u64 Y)] (.tup [.one (u64 (X*Y / 18446744073709551616:Nat)),.one (u64 (X*Y % 18446744073709551616:Nat))]):=by
 refine fnD_of_calls (fun _ _=>Tryz.call126 _ _) rfl rfl (fun h => ?_) (fun h w => ?_)
 all_goals simp only [WDCs,WDC,wd_u64] at h
 ·simp only [WDV,WDCs,WDC,wd_u64,and_true]
  have h1:X*Y≤18446744073709551615*18446744073709551615:=Nat.mul_le_mul (by omega) (by omega)
  omega
 ·exact (Tryz.bits_Mul64 X Y (by omega) (by omega) w).mono fun e w' ⟨he,hw⟩=>⟨he,by rw [hw];exact Below.refl _ _,by rw [hw];exact Nat.le_refl _⟩
abbrev wideC (x:Bool) (m:Nat):DC:=.agg [bol x,u64 (m / 18446744073709551616:Nat),u64 (m % 18446744073709551616:Nat)]
theorem times_fnd (a b:Int):FnD Tryz.prog 143 [.one (i64 a),.one (i64 b)] (.c (wideC (decide (a<0) != decide (b<0)) (a.natAbs*b.natAbs))):=by
 refine fn_okD (by kernel_rfl) ty_okD rfl Tryz.func143 rfl (fun _ _=>Tryz.call143 _ _) rfl ?_
 intro hw
 clear hw
 have H1:=abs_fnd a
 have H2:=abs_fnd b
 have H3:=mul64_fnd a.natAbs b.natAbs
 generalize a.natAbs*b.natAbs=m at *
 repeat' ((conv=>whnf);first|(with_reducible first|refine br_t ?_|refine br_f ?_|refine zd ?_|refine za ?_|refine zg ?_)|refine zp ?_|refine zq ?_|(with_reducible first|refine bc (fun h => ?_) (fun h => ?_)|refine zt ?_|refine zf ?_|refine br_i (fun h => ?_) (fun h => ?_))|refine zg ?_|refine zi ?_|refine zb ?_)
 all_goals conv=>whnf
 all_goals rfl
theorem compare_fnd (x y:Bool) (m n:Nat):FnD Tryz.prog 163 [wideC x m,wideC y n] (ret1 (cmpN m n)):=by
 refine fn_okD (by kernel_rfl) ty_okD rfl Tryz.func163 rfl (fun _ _=>Tryz.call163 _ _) rfl ?_
 intro hw
 clear hw
 have H1:=cmpu_fnd ((m / 18446744073709551616:Nat):Int) ((n / 18446744073709551616:Nat):Int)
 have H2:=cmpu_fnd ((m % 18446744073709551616:Nat):Int) ((n % 18446744073709551616:Nat):Int)
 have e:=cmpN_hi (m / 18446744073709551616) (m % 18446744073709551616) (n / 18446744073709551616) (n % 18446744073709551616) (Nat.mod_lt _ (by decide)) (Nat.mod_lt _ (by decide))
 rw [Nat.div_add_mod',Nat.div_add_mod'] at e
 rw [e]
 generalize cmpN ((m / 18446744073709551616:Nat):Int) ((n / 18446744073709551616:Nat):Int)=u at *
 generalize cmpN ((m % 18446744073709551616:Nat):Int) ((n % 18446744073709551616:Nat):Int)=v at *
 repeat' ((conv=>whnf);first|(with_reducible first|refine br_t ?_|refine br_f ?_|refine zd ?_|refine za ?_|refine zg ?_)|refine zp ?_|refine zq ?_|(with_reducible first|refine bc (fun h => ?_) (fun h => ?_)|refine zt ?_|refine zf ?_|refine br_i (fun h => ?_) (fun h => ?_))|refine zg ?_|refine zi ?_|refine zb ?_)
 all_goals conv=>whnf
 all_goals exact r_int (by simp [*])
theorem bth_c {p q r t:Int} (h:bth p q r t=0):chk p q=0∧chk r t=0:=by
 unfold bth at h
 split at h
 ·exact ⟨by assumption,h⟩
 ·omega
theorem cmpN_neg (x y:Int):cmpN (-x) (-y) = -cmpN x y:=by
 unfold cmpN
 (repeat' split)<;>omega
theorem tup2_eq {a b c:Int} (h:a=b):DV.tup [.one (i64 a),.one (i64 c)]=ret2 (b,c):=by rw [h]
theorem cmp_fnd (p q r t:Int):FnD Tryz.prog 103 (rat2 p q r t) (ret2 (cmpV p q r t)):=by
 have H1:=both_fnd p q r t
 unfold cmpV
 by_cases hb:bth p q r t=0
 ·rw [if_pos hb]
  rw [hb] at H1
  obtain ⟨c1,c2⟩:=bth_c hb
  obtain ⟨a1,a2,_⟩:=(chk_iff p q).1 c1
  obtain ⟨b1,b2,_⟩:=(chk_iff r t).1 c2
  have H2:=cmpi_fnd p r
  have H3:=times_fnd p t
  have H4:=times_fnd r q
  have H5:=compare_fnd (decide (p<0) != decide (t<0)) (decide (r<0) != decide (q<0)) (p.natAbs*t.natAbs) (r.natAbs*q.natAbs)
  have hpt:(p<0∧p*t<0∧p*t = -((p.natAbs*t.natAbs:Nat):Int))∨0≤p∧0≤p*t∧p*t=((p.natAbs*t.natAbs:Nat):Int):=by
   rw [← Int.natAbs_mul]
   rcases Int.lt_or_le p 0 with h|h
   ·have:=Int.mul_neg_of_neg_of_pos h (show 0<t by omega);exact .inl ⟨h,this,by omega⟩
   ·have:=Int.mul_nonneg h (show 0≤t by omega);exact .inr ⟨h,this,by omega⟩
  have hrq:(r<0∧r*q<0∧r*q = -((r.natAbs*q.natAbs:Nat):Int))∨0≤r∧0≤r*q∧r*q=((r.natAbs*q.natAbs:Nat):Int):=by
   rw [← Int.natAbs_mul]
   rcases Int.lt_or_le r 0 with h|h
   ·have:=Int.mul_neg_of_neg_of_pos h (show 0<q by omega);exact .inl ⟨h,this,by omega⟩
   ·have:=Int.mul_nonneg h (show 0≤q by omega);exact .inr ⟨h,this,by omega⟩
  generalize p.natAbs*t.natAbs=m at *
  generalize r.natAbs*q.natAbs=n at *
  generalize p*t=x at *
  generalize r*q=y at *
  clear c1 c2 hb
  have e3:(decide (p<0) != decide (t<0))=decide (p<0):=by rw [show decide (t<0)=false from decide_eq_false (by omega)];simp
  have e4:(decide (r<0) != decide (q<0))=decide (r<0):=by rw [show decide (q<0)=false from decide_eq_false (by omega)];simp
  rw [e3] at H3 H5
  rw [e4] at H4 H5
  clear e3 e4
  rcases hpt with ⟨p1,p2,p3⟩|⟨p1,p2,p3⟩<;>rcases hrq with ⟨r1,r2,r3⟩|⟨r1,r2,r3⟩
  ·have e:cmpN x y = -cmpN m n:=by rw [p3,r3,cmpN_neg]
   have hr:=cmpN_rng (m:Int) n
   rw [e]
   generalize cmpN (m:Int) n=k at *
   rw [decide_eq_true p1] at H3 H5
   rw [decide_eq_true r1] at H4 H5
   have hne:(!(decide (p<0) == decide (r<0)))=false:=by simp [show p<0 from p1,show r<0 from r1]
   refine fn_okD (by kernel_rfl) ty_okD rfl Tryz.func103 rfl (fun _ _=>Tryz.call103 _ _) rfl ?_
   intro hw
   clear hw
   repeat' ((conv=>whnf);first|(with_reducible first|refine br_t ?_|refine br_f ?_|refine zd ?_|refine za ?_|refine zg ?_)|refine zp ?_|refine zq ?_|(with_reducible first|refine bc (fun h => ?_) (fun h => ?_)|refine zt ?_|refine zf ?_|refine br_i (fun h => ?_) (fun h => ?_))|refine zg ?_|refine zi ?_|refine zb ?_)
   all_goals conv=>whnf
   all_goals exact tup2_eq (by rw [IntWalk.i64_in _ (by omega)];omega)
  ·have e:cmpN p r=cmpN x y:=by unfold cmpN;(repeat' split)<;>omega
   rw [← e]
   have hne:(!(decide (p<0) == decide (r<0)))=true:=by simp [show p<0 from p1,show ¬ r<0 by omega]
   refine fn_okD (by kernel_rfl) ty_okD rfl Tryz.func103 rfl (fun _ _=>Tryz.call103 _ _) rfl ?_
   intro hw
   clear hw
   repeat' ((conv=>whnf);first|(with_reducible first|refine br_t ?_|refine br_f ?_|refine zd ?_|refine za ?_|refine zg ?_)|refine zp ?_|refine zq ?_|(with_reducible first|refine bc (fun h => ?_) (fun h => ?_)|refine zt ?_|refine zf ?_|refine br_i (fun h => ?_) (fun h => ?_))|refine zg ?_|refine zi ?_|refine zb ?_)
   all_goals conv=>whnf
   all_goals rfl
  ·have e:cmpN p r=cmpN x y:=by unfold cmpN;(repeat' split)<;>omega
   rw [← e]
   have hne:(!(decide (p<0) == decide (r<0)))=true:=by simp [show ¬ p<0 by omega,show r<0 from r1]
   refine fn_okD (by kernel_rfl) ty_okD rfl Tryz.func103 rfl (fun _ _=>Tryz.call103 _ _) rfl ?_
   intro hw
   clear hw
   repeat' ((conv=>whnf);first|(with_reducible first|refine br_t ?_|refine br_f ?_|refine zd ?_|refine za ?_|refine zg ?_)|refine zp ?_|refine zq ?_|(with_reducible first|refine bc (fun h => ?_) (fun h => ?_)|refine zt ?_|refine zf ?_|refine br_i (fun h => ?_) (fun h => ?_))|refine zg ?_|refine zi ?_|refine zb ?_)
   all_goals conv=>whnf
   all_goals rfl
  ·rw [p3,r3]
   generalize cmpN (m:Int) n=k at *
   rw [decide_eq_false (show ¬ p<0 by omega)] at H3 H5
   rw [decide_eq_false (show ¬ r<0 by omega)] at H4 H5
   have hne:(!(decide (p<0) == decide (r<0)))=false:=by simp [show ¬ p<0 by omega,show ¬ r<0 by omega]
   refine fn_okD (by kernel_rfl) ty_okD rfl Tryz.func103 rfl (fun _ _=>Tryz.call103 _ _) rfl ?_
   intro hw
   clear hw
   repeat' ((conv=>whnf);first|(with_reducible first|refine br_t ?_|refine br_f ?_|refine zd ?_|refine za ?_|refine zg ?_)|refine zp ?_|refine zq ?_|(with_reducible first|refine bc (fun h => ?_) (fun h => ?_)|refine zt ?_|refine zf ?_|refine br_i (fun h => ?_) (fun h => ?_))|refine zg ?_|refine zi ?_|refine zb ?_)
   all_goals conv=>whnf
   all_goals rfl
 ·rw [if_neg hb]
  have h8:bth p q r t=8:=(bth_08 p q r t).resolve_left hb
  rw [h8] at H1
  refine fn_okD (by kernel_rfl) ty_okD rfl Tryz.func103 rfl (fun _ _=>Tryz.call103 _ _) rfl ?_
  intro hw
  clear hw
  repeat' ((conv=>whnf);first|(with_reducible first|refine br_t ?_|refine br_f ?_|refine zd ?_|refine za ?_|refine zg ?_)|refine zp ?_|refine zq ?_|(with_reducible first|refine bc (fun h => ?_) (fun h => ?_)|refine zt ?_|refine zf ?_|refine br_i (fun h => ?_) (fun h => ?_))|refine zg ?_|refine zi ?_|refine zb ?_)
  all_goals conv=>whnf
  all_goals rfl
end Go.Proofs.YtfkfficabeclcaaGreatDoor

namespace Go.Proofs.YtfkfficabeclcaaGreatDoor
open Go.RowKit Go.Sort Sx
abbrev pt (i a b:Int):DC:=.agg [i64 i,i64 a,i64 b]
abbrev rat (n d:Int):DC:=.agg [i64 n,i64 d]
def far (n:Int):Bool:=decide (n < -1048576∨n > 1048576)
theorem far_t {n:Int} {A B:Prop} (h1:n < -1048576∨1048576<n→A) (h2 : -1048576≤n∧n≤1048576→B):br (far n) A B:=brd h1 fun h=>h2 (by omega)
theorem far_y {n:Int} {A B:Prop} (e:n < -1048576∨1048576<n) (h:A):br (far n) A B:=brd_t e h
theorem far_n {n:Int} {A B:Prop} (e : -1048576≤n∧n≤1048576) (h:B):br (far n) A B:=brd_f (by omega) h
def cpt (i a b:Int):Int:=if 0≤i∧i≤65535 ∧ -1048576≤a∧a≤1048576 ∧ -1048576≤b∧b≤1048576 then 0 else 8
theorem cpt_08 (i a b:Int):cpt i a b=0∨cpt i a b=8:=by unfold cpt;split<;>simp
theorem cpt_ok {i a b:Int} (h:cpt i a b=0):0≤i∧i≤65535 ∧ -1048576≤a∧a≤1048576 ∧ -1048576≤b∧b≤1048576:=by
 unfold cpt at h;split at h
 ·assumption
 ·cases h
theorem kfar_fnd (n : Int) : FnD Tryz.prog 125 [.one (i64 n)] (.c (.one (bol (far n)))) := by
  refine fn_okD (by kernel_rfl) ty_okD rfl Tryz.func125 rfl (fun _ _ => Tryz.call125 _ _) rfl ?_
  intro hw
  repeat' ((conv => whnf); first | (with_reducible first | refine br_t ?_ | refine br_f ?_ | refine zd ?_ | refine za ?_ | refine zg ?_) | refine zp ?_ | refine zq ?_ | (with_reducible first | refine bc (fun h => ?_) (fun h => ?_) | refine zt ?_ | refine zf ?_ | refine br_i (fun h => ?_) (fun h => ?_)) | refine zg ?_ | refine zi ?_ | refine zb ?_)
  all_goals conv => whnf
  all_goals
    refine r_bool ?_
    unfold far
    first
    | exact (decide_eq_true (by omega)).symm
    | (have e : (n > 1048576) = (n < -1048576 ∨ n > 1048576) := propext ⟨.inr, fun h => by omega⟩
       exact decide_eq_decide.2 (by omega))
theorem kCheck_fnd (i a b:Int):FnD Tryz.prog 71 [pt i a b] (ret1 (cpt i a b)):=by
 refine fn_okD (by kernel_rfl) ty_okD rfl Tryz.func71 rfl (fun _ _=>Tryz.call71 _ _) rfl ?_
 intro hw
 repeat' ((conv=>whnf);first|(with_reducible first|refine br_t ?_|refine br_f ?_|refine zd ?_|refine za ?_|refine zg ?_|refine xi (kfar_fnd _) ?_)|first|((with_reducible refine far_y ?_ ?_);omega)|((with_reducible refine far_n ?_ ?_);omega)|(with_reducible refine far_t (fun h => ?_) (fun h => ?_))|refine zp ?_|refine zq ?_|(with_reducible first|refine bc (fun h => ?_) (fun h => ?_)|refine zt ?_|refine zf ?_|refine br_i (fun h => ?_) (fun h => ?_))|refine zg ?_|refine zi ?_|refine zb ?_)
 all_goals conv=>whnf
 all_goals
  refine r_int ?_
  unfold cpt
  first
  | rw [if_pos (by omega)]
  | rw [if_neg (by omega)]
theorem kCheck_fn (i a b:Int):FnOK Tryz.prog 71 [pt i a b] (ret1 (cpt i a b)):=(kCheck_fnd i a b).ok
theorem kkCheck_fn (i a b:Int):FnOK Tryz.prog 62 [pt i a b] (ret1 (cpt i a b)):=by
 refine fn_ok (by kernel_rfl) ty_ok Tryz.func62 rfl (fun _ _=>Tryz.call62 _ _) rfl ?_
 intro hw
 repeat' ((conv=>whnf);first|(with_reducible first|refine br_t ?_|refine br_f ?_|refine za ?_|refine zg ?_)|refine zp ?_|refine zq ?_|(with_reducible first|refine bc (fun h => ?_) (fun h => ?_)|refine zt ?_|refine zf ?_|refine br_i (fun h => ?_) (fun h => ?_))|refine zg ?_|refine zi ?_|refine zb ?_)
 all_goals conv=>whnf
 all_goals
  refine r_int ?_
  unfold cpt
  first
  | rw [if_pos (by omega)]
  | rw [if_neg (by omega)]
end Go.Proofs.YtfkfficabeclcaaGreatDoor

namespace Go.Proofs.YtfkfficabeclcaaGreatDoor
open Go.RowKit Go.Sort Sx
theorem mul64i_fnd (x y:Int):FnD Tryz.prog 126 [.one (u64 x),.one (u64 y)] (.tup [.one (u64 (x*y / 18446744073709551616)),.one (u64 (x*y % 18446744073709551616))]):=by
 refine fnD_of_calls (fun _ _=>Tryz.call126 _ _) rfl rfl (fun h => ?_) (fun h w => ?_)
 all_goals
  simp only [WDCs,WDC,wd_u64] at h
  obtain ⟨X,rfl⟩:=Int.eq_ofNat_of_zero_le (show 0≤x by omega)
  obtain ⟨Y,rfl⟩:=Int.eq_ofNat_of_zero_le (show 0≤y by omega)
 ·simp only [WDV,WDCs,WDC,wd_u64,and_true]
  have h1:X*Y≤18446744073709551615*18446744073709551615:=Nat.mul_le_mul (by omega) (by omega)
  rw [← Int.natCast_mul]
  omega
 ·exact (Tryz.bits_Mul64 X Y (by omega) (by omega) w).mono fun e w' ⟨he,hw⟩=>⟨he,by rw [hw];exact Below.refl _ _,by rw [hw];exact Nat.le_refl _⟩
theorem add64_fnd (x y c:Int) (h0:0≤c) (h1:c≤1):FnD Tryz.prog 127 [.one (u64 x),.one (u64 y),.one (u64 c)] (.tup [.one (u64 ((x+y+c) % 18446744073709551616)),.one (u64 ((x+y+c) / 18446744073709551616))]):=by
 refine fnD_of_run rfl rfl (fun h => ?_) (fun h w => ?_)
 all_goals
  simp only [WDCs,WDC,wd_u64] at h
  obtain ⟨X,rfl⟩:=Int.eq_ofNat_of_zero_le (show 0≤x by omega)
  obtain ⟨Y,rfl⟩:=Int.eq_ofNat_of_zero_le (show 0≤y by omega)
  obtain ⟨C,rfl⟩:=Int.eq_ofNat_of_zero_le h0
 ·simp only [WDV,WDCs,WDC,wd_u64,and_true]
  omega
 ·exact run_Add64 X Y C (by omega) w
theorem sub64_fn (x y c:Int) (h0:0≤c) (h1:c≤1):FnOK Tryz.prog 73 [.one (u64 x),.one (u64 y),.one (u64 c)] (.tup [.one (u64 ((x+18446744073709551616-y-c) % 18446744073709551616)),.one (u64 (if x<y+c then 1 else 0))]):=by
 refine fn_of_run rfl rfl (fun h => ?_) (fun h w => ?_)
 all_goals
  simp only [WDCs,WDC,wd_u64] at h
  obtain ⟨X,rfl⟩:=Int.eq_ofNat_of_zero_le (show 0≤x by omega)
  obtain ⟨Y,rfl⟩:=Int.eq_ofNat_of_zero_le (show 0≤y by omega)
  obtain ⟨C,rfl⟩:=Int.eq_ofNat_of_zero_le h0
 ·simp only [WDV,WDCs,WDC,wd_u64,and_true]
  split<;>omega
 ·have:=run_Sub64 X Y C (by omega) w
  rw [show ((X:Int)+18446744073709551616-Y-C) % 18446744073709551616=(((X+18446744073709551616-Y-C) % 18446744073709551616:Nat):Int) by omega,
   show (if (X:Int)<Y+C then (1:Int) else 0)=((if X<Y+C then 1 else 0:Nat):Int) by split<;>split<;>omega]
  exact this
theorem wrap_ex (x:Int):∃ j,IntKind.i64.wrap x=x+j*18446744073709551616:=by
 rw [IntKind.wrap_i64]
 exact ⟨-((x+9223372036854775808) / 18446744073709551616),by have:=Int.emod_add_mul_ediv (x+9223372036854775808) 18446744073709551616;omega⟩
theorem rd_lem (W H L T u v x y hi lo high c L' H' a b j1 j2 k:Int) (hx:x=u+a*W) (hy:y=v+b*W) (hm:x*y=hi*W+lo) (hhigh:high=hi-a*v-b*u+j1*W) (hc:L+lo=c*W+L') (hH:H'=H+high+c+j2*W)
  (hk:H*W+L=T+k*(W*W)):H'*W+L'=T+u*v+(k+j1+j2+a*b)*(W*W):=by
 have e1:lo=x*y-hi*W:=by omega
 have e2:L'=L+lo-c*W:=by omega
 have e3:T=H*W+L-k*(W*W):=by omega
 clear hm hc hk
 subst e3 e2 e1 hH hhigh hx hy
 grind
def Acc (H L T:Int):Prop:=(-9223372036854775808≤H∧H≤9223372036854775807)∧(0≤L∧L<18446744073709551616)∧∃ k,H*18446744073709551616+L=T+k*(18446744073709551616*18446744073709551616)
theorem u64_of (u:Int) (h0 : -9223372036854775808≤u) (h1:u≤9223372036854775807):IntKind.u64.wrap u=u+(if u<0 then 1 else 0)*18446744073709551616:=by
 rw [IntKind.wrap_u64];split<;>omega
def HighOK (u v high:Int):Prop:=∃ j,high=IntKind.u64.wrap u*IntKind.u64.wrap v / 18446744073709551616-(if u<0 then 1 else 0)*v-(if v<0 then 1 else 0)*u+j*18446744073709551616
theorem rdA {H L T u v high:Int} (hu : -9223372036854775808≤u∧u≤9223372036854775807) (hv : -9223372036854775808≤v∧v≤9223372036854775807) (h:Acc H L T) (hh:HighOK u v high) :
  Acc (IntKind.i64.wrap (IntKind.i64.wrap (H+high)+IntKind.i64.wrap ((L+IntKind.u64.wrap u*IntKind.u64.wrap v % 18446744073709551616+0) / 18446744073709551616)))
   ((L+IntKind.u64.wrap u*IntKind.u64.wrap v % 18446744073709551616+0) % 18446744073709551616) (T+u*v):=by
 obtain ⟨h1,h2,k,hk⟩:=h
 obtain ⟨j1,hj1⟩:=hh
 obtain ⟨j2,hj2⟩:=wrap_ex (H+high)
 have ex:=u64_of u hu.1 hu.2
 have ey:=u64_of v hv.1 hv.2
 generalize IntKind.u64.wrap u=x at *
 generalize IntKind.u64.wrap v=y at *
 generalize (if u<0 then (1:Int) else 0)=a at *
 generalize (if v<0 then (1:Int) else 0)=b at *
 have d1:=Int.emod_add_mul_ediv (x*y) 18446744073709551616
 have d2:=Int.emod_nonneg (x*y) (show (18446744073709551616:Int)≠0 by decide)
 have d3:=Int.emod_lt_of_pos (x*y) (show (0:Int)<18446744073709551616 by decide)
 generalize hlo:x*y % 18446744073709551616=lo at *
 generalize hhi:x*y / 18446744073709551616=hi at *
 rw [Int.add_zero]
 have hc:(0:Int)≤(L+lo) / 18446744073709551616∧(L+lo) / 18446744073709551616≤1:=by omega
 have hc2:=Int.emod_add_mul_ediv (L+lo) 18446744073709551616
 have hc3:0≤(L+lo) % 18446744073709551616∧(L+lo) % 18446744073709551616<18446744073709551616:=by omega
 generalize (L+lo) / 18446744073709551616=c at *
 generalize (L+lo) % 18446744073709551616=L' at *
 have ec:IntKind.i64.wrap c=c:=IntWalk.i64_in c (by omega)
 rw [ec]
 obtain ⟨j3,hj3⟩:=wrap_ex (IntKind.i64.wrap (H+high)+c)
 have hr:=inK_wrap .i64 (IntKind.i64.wrap (H+high)+c)
 refine ⟨hr,hc3,k+j1+(j2+j3)+a*b,?_⟩
 refine rd_lem 18446744073709551616 H L T u v x y hi lo high c L' _ a b j1 (j2+j3) k ex ey (by omega) hj1 (by omega) ?_ hk
 rw [hj3,hj2,Int.add_mul];omega
theorem high0 {u v:Int} (h1:¬ u<0) (h2:¬ v<0):HighOK u v (IntKind.i64.wrap (IntKind.u64.wrap u*IntKind.u64.wrap v / 18446744073709551616)):=by
 obtain ⟨j,hj⟩:=wrap_ex (IntKind.u64.wrap u*IntKind.u64.wrap v / 18446744073709551616)
 exact ⟨j,by rw [if_neg h1,if_neg h2,hj];omega⟩
theorem high1 {u v:Int} (h1:u<0) (h2:¬ v<0):HighOK u v (IntKind.i64.wrap (IntKind.i64.wrap (IntKind.u64.wrap u*IntKind.u64.wrap v / 18446744073709551616)-v)):=by
 obtain ⟨j,hj⟩:=wrap_ex (IntKind.u64.wrap u*IntKind.u64.wrap v / 18446744073709551616)
 obtain ⟨j2,hj2⟩:=wrap_ex (IntKind.i64.wrap (IntKind.u64.wrap u*IntKind.u64.wrap v / 18446744073709551616)-v)
 exact ⟨j+j2,by rw [if_pos h1,if_neg h2,hj2,hj,Int.add_mul];omega⟩
theorem high2 {u v:Int} (h1:¬ u<0) (h2:v<0):HighOK u v (IntKind.i64.wrap (IntKind.i64.wrap (IntKind.u64.wrap u*IntKind.u64.wrap v / 18446744073709551616)-u)):=by
 obtain ⟨j,hj⟩:=wrap_ex (IntKind.u64.wrap u*IntKind.u64.wrap v / 18446744073709551616)
 obtain ⟨j2,hj2⟩:=wrap_ex (IntKind.i64.wrap (IntKind.u64.wrap u*IntKind.u64.wrap v / 18446744073709551616)-u)
 exact ⟨j+j2,by rw [if_neg h1,if_pos h2,hj2,hj,Int.add_mul];omega⟩
theorem high3 {u v:Int} (h1:u<0) (h2:v<0):HighOK u v (IntKind.i64.wrap (IntKind.i64.wrap (IntKind.i64.wrap (IntKind.u64.wrap u*IntKind.u64.wrap v / 18446744073709551616)-v)-u)):=by
 obtain ⟨j,hj⟩:=wrap_ex (IntKind.u64.wrap u*IntKind.u64.wrap v / 18446744073709551616)
 obtain ⟨j2,hj2⟩:=wrap_ex (IntKind.i64.wrap (IntKind.u64.wrap u*IntKind.u64.wrap v / 18446744073709551616)-v)
 obtain ⟨j3,hj3⟩:=wrap_ex (IntKind.i64.wrap (IntKind.i64.wrap (IntKind.u64.wrap u*IntKind.u64.wrap v / 18446744073709551616)-v)-u)
 exact ⟨j+j2+j3,by rw [if_pos h1,if_pos h2,hj3,hj2,hj,Int.add_mul,Int.add_mul];omega⟩
theorem sum_end {H L S:Int} (h:Acc H L (0+S)) (hS : -85070591730234615865843651857942052864≤S∧S≤85070591730234615865843651857942052864) :
  (DV.c (.agg [i64 H,u64 L]))=.c (.agg [i64 (S / 18446744073709551616),u64 (S % 18446744073709551616)]):=by
 obtain ⟨h1,h2,k,hk⟩:=h
 have:k=0:=by omega
 subst this
 have e1:S / 18446744073709551616=H:=by omega
 have e2:S % 18446744073709551616=L:=by omega
 rw [e1,e2]
theorem acc0:Acc 0 0 0:=⟨by decide,by decide,0,by decide⟩
set_option maxHeartbeats 4000000 in
theorem sum_fnd (a d b n:Int) (hS : -85070591730234615865843651857942052864≤a*d+b*n∧a*d+b*n≤85070591730234615865843651857942052864) :
  FnD Tryz.prog 72 [.agg [i64 a,i64 d,i64 b,i64 n]] (.c (.agg [i64 ((a*d+b*n) / 18446744073709551616),u64 ((a*d+b*n) % 18446744073709551616)])):=by
 refine fn_okD (by kernel_rfl) ty_okD rfl Tryz.func72 rfl (fun _ _=>Tryz.call72 _ _) rfl ?_
 intro hw
 simp only [WDCs,WDC,WDs,wd_i64] at hw
 have e1:IntKind.i64.wrap (((0:Nat):Int)+1)=((1:Nat):Int):=rfl
 have e2:IntKind.i64.wrap (((1:Nat):Int)+1)=((2:Nat):Int):=rfl
 repeat' ((conv=>whnf);first|(with_reducible first|refine br_t ?_|refine br_f ?_|refine zd ?_|refine za ?_|refine zg ?_|refine xi (mul64i_fnd _ _) ?_|refine xi (add64_fnd _ _ _ (by omega) (by omega)) ?_)|refine zp ?_|refine zq ?_|(with_reducible first|refine bc (fun h => ?_) (fun h => ?_)|refine zt ?_|refine zf ?_|refine br_i (fun h => ?_) (fun h => ?_))|refine zg ?_|refine zi ?_|refine zb ?_)
 refine loop_I (by kernel_rfl) ty_okD (σ:=Nat × Int × Int)
  (fun s=>([(1,.c (.at (.ptr 1 0))),(2,.c (.at (.ptr 2 0))),(3,.c (.at (.ptr 3 0))),(11,.c (.agg [.d (i64 a),.d (i64 d),.d (i64 b),.d (i64 n)])),(12,sV (.int .i64 (s.1:Int)))],
   [(3,.own [.d (i64 s.2.1),.d (u64 s.2.2)]),(2,.own [.d (i64 0),.d (u64 0)]),(1,.own [.d (i64 a),.d (i64 d),.d (i64 b),.d (i64 n)])]))
  (fun s=>(s.1=0∧Acc s.2.1 s.2.2 0)∨(s.1=1∧Acc s.2.1 s.2.2 (0+a*d))∨(s.1=2∧Acc s.2.1 s.2.2 (0+a*d+b*n))) (fun s=>2-s.1) (0,0,0) (.inl ⟨rfl,acc0⟩) ⟨⟨rfl,rfl,rfl,rfl,rfl,trivial⟩,⟨rfl,rfl,rfl,trivial⟩,rfl⟩ ?_
 rintro ⟨i,Hh,Ll⟩ hI
 simp only at hI
 rcases hI with ⟨rfl,hA⟩|⟨rfl,hA⟩|⟨rfl,hA⟩
 ·have hA':=Lib.hid hA
  clear hA
  repeat' ((conv=>whnf);first|(with_reducible first|refine br_t ?_|refine br_f ?_|refine zd ?_|refine za ?_|refine zg ?_|refine xi (mul64i_fnd _ _) ?_|refine xi (add64_fnd _ _ _ (by omega) (by omega)) ?_)|refine zp ?_|refine zq ?_|(with_reducible first|refine bc (fun h => ?_) (fun h => ?_)|refine zt ?_|refine zf ?_|refine br_i (fun h => ?_) (fun h => ?_))|refine zg ?_|refine zi ?_|refine zb ?_)
  all_goals conv=>whnf
  all_goals
   refine ⟨(1,_,_),?_,⟨⟨rfl,rfl,rfl,rfl,rfl,trivial⟩,⟨rfl,rfl,rfl,trivial⟩,rfl⟩,by show 2-1<2-0;decide⟩
   refine .inr (.inl ⟨rfl,?_⟩)
   refine rdA (H:=Hh) (L:=Ll) (u:=a) (v:=d) (by omega) (by omega) hA'.out ?_
   with_reducible first
   | (exact high0 (by assumption) (by assumption))
   | (exact high1 (by assumption) (by assumption))
   | (exact high2 (by assumption) (by assumption))
   | (exact high3 (by assumption) (by assumption))
 ·have hA':=Lib.hid hA
  clear hA
  repeat' ((conv=>whnf);first|(with_reducible first|refine br_t ?_|refine br_f ?_|refine zd ?_|refine za ?_|refine zg ?_|refine xi (mul64i_fnd _ _) ?_|refine xi (add64_fnd _ _ _ (by omega) (by omega)) ?_)|refine zp ?_|refine zq ?_|(with_reducible first|refine bc (fun h => ?_) (fun h => ?_)|refine zt ?_|refine zf ?_|refine br_i (fun h => ?_) (fun h => ?_))|refine zg ?_|refine zi ?_|refine zb ?_)
  all_goals conv=>whnf
  all_goals
   refine ⟨(2,_,_),?_,⟨⟨rfl,rfl,rfl,rfl,rfl,trivial⟩,⟨rfl,rfl,rfl,trivial⟩,rfl⟩,by show 2-2<2-1;decide⟩
   refine .inr (.inr ⟨rfl,?_⟩)
   refine rdA (H:=Hh) (L:=Ll) (u:=b) (v:=n) (by omega) (by omega) hA'.out ?_
   with_reducible first
   | (exact high0 (by assumption) (by assumption))
   | (exact high1 (by assumption) (by assumption))
   | (exact high2 (by assumption) (by assumption))
   | (exact high3 (by assumption) (by assumption))
 ·have hA':=Lib.hid hA
  clear hA
  repeat' ((conv=>whnf);first|(with_reducible first|refine br_t ?_|refine br_f ?_|refine zd ?_|refine za ?_|refine zg ?_|refine xi (mul64i_fnd _ _) ?_|refine xi (add64_fnd _ _ _ (by omega) (by omega)) ?_)|refine zp ?_|refine zq ?_|(with_reducible first|refine bc (fun h => ?_) (fun h => ?_)|refine zt ?_|refine zf ?_|refine br_i (fun h => ?_) (fun h => ?_))|refine zg ?_|refine zi ?_|refine zb ?_)
  all_goals conv=>whnf
  rw [Int.add_assoc] at hA'
  exact sum_end hA'.out hS
theorem sum_fn (a d b n:Int) (hS : -85070591730234615865843651857942052864≤a*d+b*n∧a*d+b*n≤85070591730234615865843651857942052864) :
  FnOK Tryz.prog 72 [.agg [i64 a,i64 d,i64 b,i64 n]] (.c (.agg [i64 ((a*d+b*n) / 18446744073709551616),u64 ((a*d+b*n) % 18446744073709551616)])):=(sum_fnd a d b n hS).ok
end Go.Proofs.YtfkfficabeclcaaGreatDoor
