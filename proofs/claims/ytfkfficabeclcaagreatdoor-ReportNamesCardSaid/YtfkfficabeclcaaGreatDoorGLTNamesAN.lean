import Derived.Test.YtfkfficabeclcaaGreatDoorGLTNamesAM
import Derived.Test.YtfkfficabeclcaaGreatDoorGLTNamesAK
set_option linter.all false
namespace Go.Proofs.YtfkfficabeclcaaGreatDoor
open Go.RowKit Go.Sort
def subV (p q r t:Int):Int × Int × Int:=if bth p q r t=0 then addV p q (-r) t else (0,0,8)
theorem sub_any (p q r t:Int) (w:World) (p0 : -9223372036854775808≤p) (p1:p≤9223372036854775807) (q0 : -9223372036854775808≤q) (q1:q≤9223372036854775807)
  (r0 : -9223372036854775808≤r) (r1:r≤9223372036854775807) (t0 : -9223372036854775808≤t) (t1:t≤9223372036854775807) :
  Calls Tryz.prog 89 #[.agg #[.int .i64 p,.int .i64 q],.agg #[.int .i64 r,.int .i64 t]] w fun e w' =>
   e=.returned (.tuple #[.agg #[.int .i64 (subV p q r t).1,.int .i64 (subV p q r t).2.1],.int .i64 (subV p q r t).2.2])∧Below w.heap.size w w':=by
 unfold subV
 rcases bth_08 p q r t with hv|hv
 ·rw [if_pos hv]
  obtain ⟨h1,h2⟩:=bth_ok hv
  obtain ⟨a1,a2,_⟩:=chk_ok h1
  obtain ⟨b1,b2,_⟩:=chk_ok h2
  have HB:=both_any p q r t
  rw [hv] at HB
  have HBB:=Lib.hid HB
  clear HB hv h1 h2
  have r2 : -9223372036854775807≤r:=by omega
  go_enter Tryz.func89,Tryz.ntmps89
  go_wp2_with (first|(go_at_call 141;(with_reducible refine cmono ?_ (HBB.out _ ?_ ?_ ?_ ?_ ?_ ?_ ?_ ?_));rotate_left;omega;omega;omega;omega;omega;omega;omega;omega;rintro e w' ⟨rfl,hbc0⟩;obtain ⟨⟨dc0,osc0⟩,rfl⟩:=regrown_of_below hbc0;clear hbc0)|(go_at_call 144;(with_reducible refine cmono ?_ (add_any _ _ _ _ _ ?_ ?_ ?_ ?_ ?_ ?_ ?_ ?_));rotate_left;omega;omega;omega;omega;omega;omega;omega;omega;rintro e w' ⟨rfl,hbc1⟩;obtain ⟨⟨dc1,osc1⟩,rfl⟩:=regrown_of_below hbc1;clear hbc1)|((with_reducible refine wp_region_quiet_below ?_ ?_ ?_);kernel_rfl;kernel_rfl;(repeat (go_big_quiet_step (first|(go_at_call 141;(with_reducible refine Calls.regrown_of (HBB.out _ ?_ ?_ ?_ ?_ ?_ ?_ ?_ ?_));omega;omega;omega;omega;omega;omega;omega;omega)|(go_at_call 144;(with_reducible refine Calls.regrown_of (add_any _ _ _ _ _ ?_ ?_ ?_ ?_ ?_ ?_ ?_ ?_));omega;omega;omega;omega;omega;omega;omega;omega))));refine wpQuiet_nil ?_;intro _ hw';obtain ⟨⟨dq,osq⟩,hw''⟩:=hw';subst hw''))
  refine bodyPost_ret (v:=.tuple #[.agg #[.int .i64 (addV p q (-r) t).1,.int .i64 (addV p q (-r) t).2.1],.int .i64 (addV p q (-r) t).2.2]) (by simp [results,Tryz.results89,go_sem]) rfl ⟨rfl,(by repeat (first|exact Below.refl _ _|refine below_reg ?_ _ _|refine below_alloc ?_ _|exact below_drewN ?_ _|assumption))⟩
 ·rw [if_neg (by omega)]
  have HB:=both_any p q r t
  rw [hv] at HB
  have HBB:=Lib.hid HB
  clear HB hv
  go_enter Tryz.func89,Tryz.ntmps89
  go_wp2_with (first|(go_at_call 141;(with_reducible refine cmono ?_ (HBB.out _ ?_ ?_ ?_ ?_ ?_ ?_ ?_ ?_));rotate_left;omega;omega;omega;omega;omega;omega;omega;omega;rintro e w' ⟨rfl,hbc0⟩;obtain ⟨⟨dc0,osc0⟩,rfl⟩:=regrown_of_below hbc0;clear hbc0)|((with_reducible refine wp_region_quiet_below ?_ ?_ ?_);kernel_rfl;kernel_rfl;(repeat (go_big_quiet_step (first|(go_at_call 141;(with_reducible refine Calls.regrown_of (HBB.out _ ?_ ?_ ?_ ?_ ?_ ?_ ?_ ?_));omega;omega;omega;omega;omega;omega;omega;omega))));refine wpQuiet_nil ?_;intro _ hw';obtain ⟨⟨dq,osq⟩,hw''⟩:=hw';subst hw''))
  refine bodyPost_ret (v:=.tuple #[.agg #[.int .i64 0,.int .i64 0],.int .i64 8]) (by simp [results,Tryz.results89,go_sem]) rfl ⟨rfl,(by repeat (first|exact Below.refl _ _|refine below_reg ?_ _ _|refine below_alloc ?_ _|exact below_drewN ?_ _|assumption))⟩
def makeV (n d:Int):Int × Int × Int :=
 if d=0 then (0,0,26) else buildN (!(decide (n<0) == decide (d<0))) (n.natAbs / Nat.gcd n.natAbs d.natAbs) (d.natAbs / Nat.gcd n.natAbs d.natAbs)
theorem makeV_any (n d:Int) (w:World) (h0 : -9223372036854775808≤n) (h1:n≤9223372036854775807) (h2 : -9223372036854775808≤d) (h3:d≤9223372036854775807) :
  Calls Tryz.prog 238 #[.int .i64 n,.int .i64 d] w fun e w' =>
   e=.returned (.tuple #[.agg #[.int .i64 (makeV n d).1,.int .i64 (makeV n d).2.1],.int .i64 (makeV n d).2.2])∧Below w.heap.size w w':=by
 unfold makeV
 by_cases hd:d=0
 ·subst hd
  rw [if_pos rfl]
  go_enter Tryz.func238,Tryz.ntmps238
  go_wp2_with (first|((with_reducible refine wp_region_quiet_below ?_ ?_ ?_);kernel_rfl;kernel_rfl;(repeat (go_big_quiet_step (fail)));refine wpQuiet_nil ?_;intro _ hw';obtain ⟨⟨dq,osq⟩,hw''⟩:=hw';subst hw''))
  refine bodyPost_ret (v:=.tuple #[.agg #[.int .i64 0,.int .i64 0],.int .i64 26]) (by simp [results,Tryz.results238,go_sem]) rfl ⟨rfl,(by repeat (first|exact Below.refl _ _|refine below_reg ?_ _ _|refine below_alloc ?_ _|exact below_drewN ?_ _|assumption))⟩
 ·rw [if_neg hd]
  exact make_any n d w h0 h1 h2 h3 hd
def cmpV (p q r t:Int):Int × Int:=if bth p q r t=0 then (cmpN (p*t) (r*q),0) else (0,8)
theorem compare_two (x y:Bool) (a b c d m n:Nat) (h1:Two a b m) (h2:Two c d n) (w:World) :
  Calls Tryz.prog 163 #[.agg #[.bool x,.int .u64 a,.int .u64 b],.agg #[.bool y,.int .u64 c,.int .u64 d]] w fun en w'=>en=.returned (.int .i64 (cmpN (m:Int) (n:Int)))∧Below w.heap.size w w':=by
 refine (compare_any x y a b c d w h1.lo h2.lo).mono fun e w' ⟨he,hb⟩=>⟨?_,hb⟩
 rw [he,h1.eq,h2.eq]
theorem cmp_any (p q r t:Int) (w:World) (p0 : -9223372036854775808≤p) (p1:p≤9223372036854775807) (q0 : -9223372036854775808≤q) (q1:q≤9223372036854775807)
  (r0 : -9223372036854775808≤r) (r1:r≤9223372036854775807) (t0 : -9223372036854775808≤t) (t1:t≤9223372036854775807) :
  Calls Tryz.prog 103 #[.agg #[.int .i64 p,.int .i64 q],.agg #[.int .i64 r,.int .i64 t]] w fun e w' =>
   e=.returned (.tuple #[.int .i64 (cmpV p q r t).1,.int .i64 (cmpV p q r t).2])∧Below w.heap.size w w':=by
 unfold cmpV
 rcases bth_08 p q r t with hv|hv
 ·rw [if_pos hv]
  obtain ⟨h1,h2⟩:=bth_ok hv
  obtain ⟨a1,a2,_⟩:=chk_ok h1
  obtain ⟨b1,b2,_⟩:=chk_ok h2
  obtain ⟨Q,rfl⟩:=Int.eq_ofNat_of_zero_le (show 0≤q by omega)
  obtain ⟨T,rfl⟩:=Int.eq_ofNat_of_zero_le (show 0≤t by omega)
  have HB:=both_any p Q r T
  rw [hv] at HB
  have HBB:=Lib.hid HB
  clear HB hv h1 h2
  obtain ⟨c1,c2,hc⟩:=two_mk (p.natAbs*T)
  obtain ⟨d1,d2,hd⟩:=two_mk (r.natAbs*Q)
  have T1:=Lib.hid (times_two p T c1 c2 hc)
  have T2:=Lib.hid (times_two r Q d1 d2 hd)
  obtain ⟨k,hk⟩:∃ k,k=cmpN ((p.natAbs*T:Nat):Int) ((r.natAbs*Q:Nat):Int):=⟨_,rfl⟩
  have C1:=compare_two (decide (p<0)) (decide (r<0)) c1 c2 d1 d2 _ _ hc hd
  rw [← hk] at C1
  have C1H:=Lib.hid C1
  have HK:=Lib.hid hk
  have hk1 : -1≤k∧k≤1:=by rw [hk];unfold cmpN;(repeat' split)<;>omega
  obtain ⟨hk1,hk2⟩:=hk1
  clear C1 hk hc hd
  cases hp:decide (p<0)<;>cases hr:decide (r<0)
  all_goals rw [hp,hr] at C1H
  all_goals rw [hp] at T1
  all_goals rw [hr] at T2
  all_goals
   go_enter Tryz.func103,Tryz.ntmps103
   go_wp2_with (first|(go_at_call 141;(with_reducible refine cmono ?_ (HBB.out _ ?_ ?_ ?_ ?_ ?_ ?_ ?_ ?_));rotate_left;omega;omega;omega;omega;omega;omega;omega;omega;rintro e w' ⟨rfl,hbc0⟩;obtain ⟨⟨dc0,osc0⟩,rfl⟩:=regrown_of_below hbc0;clear hbc0)|(go_at_call 162;(with_reducible refine cmono ?_ (cmpi_any _ _ _));rotate_left;rintro e w' ⟨rfl,hbc1⟩;obtain ⟨⟨dc1,osc1⟩,rfl⟩:=regrown_of_below hbc1;clear hbc1)|(go_at_call 143;(with_reducible refine cmono ?_ (T1.out _ ?_ ?_ ?_));rotate_left;omega;omega;omega;rintro e w' ⟨rfl,hbc2⟩;obtain ⟨⟨dc2,osc2⟩,rfl⟩:=regrown_of_below hbc2;clear hbc2)|(go_at_call 143;(with_reducible refine cmono ?_ (T2.out _ ?_ ?_ ?_));rotate_left;omega;omega;omega;rintro e w' ⟨rfl,hbc3⟩;obtain ⟨⟨dc3,osc3⟩,rfl⟩:=regrown_of_below hbc3;clear hbc3)|(go_at_call 163;(with_reducible refine cmono ?_ (C1H.out _));rotate_left;rintro e w' ⟨rfl,hbc4⟩;obtain ⟨⟨dc4,osc4⟩,rfl⟩:=regrown_of_below hbc4;clear hbc4)|((with_reducible refine wp_region_quiet_below ?_ ?_ ?_);kernel_rfl;kernel_rfl;(repeat (go_big_quiet_step (first|(go_at_call 141;(with_reducible refine Calls.regrown_of (HBB.out _ ?_ ?_ ?_ ?_ ?_ ?_ ?_ ?_));omega;omega;omega;omega;omega;omega;omega;omega)|(go_at_call 162;(with_reducible refine Calls.regrown_of (cmpi_any _ _ _)))|(go_at_call 143;(with_reducible refine Calls.regrown_of (T1.out _ ?_ ?_ ?_));omega;omega;omega)|(go_at_call 143;(with_reducible refine Calls.regrown_of (T2.out _ ?_ ?_ ?_));omega;omega;omega)|(go_at_call 163;(with_reducible refine Calls.regrown_of (C1H.out _))))));refine wpQuiet_nil ?_;intro _ hw';obtain ⟨⟨dq,osq⟩,hw''⟩:=hw';subst hw''))
  all_goals go_ret2
  all_goals refine ⟨ret_of ?_,(by repeat (first|exact Below.refl _ _|refine below_reg ?_ _ _|refine below_alloc ?_ _|exact below_drewN ?_ _|assumption))⟩
  ·have hp':0≤p:=by simpa using hp
   have hr':0≤r:=by simpa using hr
   obtain ⟨a,rfl⟩:=Int.eq_ofNat_of_zero_le hp'
   obtain ⟨b,rfl⟩:=Int.eq_ofNat_of_zero_le hr'
   show Value.tuple #[.int .i64 k,.int .i64 0]=_
   rw [HK.out];simp
  ·have hp':0≤p:=by simpa using hp
   have hr':r<0:=by simpa using hr
   have e:cmpN p r=cmpN (p*T) (r*Q):=by
    have g1:0≤p*(T:Int):=Int.mul_nonneg hp' (by omega)
    have g2:r*(Q:Int)<0:=Int.mul_neg_of_neg_of_pos hr' (by omega)
    unfold cmpN;(repeat' split)<;>omega
   rw [← e];rfl
  ·have hp':p<0:=by simpa using hp
   have hr':0≤r:=by simpa using hr
   have e:cmpN p r=cmpN (p*T) (r*Q):=by
    have g1:0≤r*(Q:Int):=Int.mul_nonneg hr' (by omega)
    have g2:p*(T:Int)<0:=Int.mul_neg_of_neg_of_pos hp' (by omega)
    unfold cmpN;(repeat' split)<;>omega
   rw [← e];rfl
  ·have hp':p<0:=by simpa using hp
   have hr':r<0:=by simpa using hr
   obtain ⟨a,rfl⟩:∃ a:Nat,p = -(a:Int):=⟨p.natAbs,by omega⟩
   obtain ⟨b,rfl⟩:∃ b:Nat,r = -(b:Int):=⟨r.natAbs,by omega⟩
   show Value.tuple #[.int .i64 (-k),.int .i64 0]=_
   rw [HK.out]
   have e : -cmpN (((-(a:Int)).natAbs*T:Nat):Int) (((-(b:Int)).natAbs*Q:Nat):Int)=cmpN (-(a:Int)*T) (-(b:Int)*Q):=by
    have g1 : -(a:Int)*(T:Int) = -((a*T:Nat):Int):=by simp [Int.neg_mul]
    have g2 : -(b:Int)*(Q:Int) = -((b*Q:Nat):Int):=by simp [Int.neg_mul]
    rw [g1,g2,Int.natAbs_neg,Int.natAbs_neg,Int.natAbs_natCast,Int.natAbs_natCast]
    generalize a*T=x
    generalize b*Q=y
    unfold cmpN;(repeat' split)<;>omega
   rw [e]
 ·rw [if_neg (by omega)]
  have HB:=both_any p q r t
  rw [hv] at HB
  have HBB:=Lib.hid HB
  clear HB hv
  go_enter Tryz.func103,Tryz.ntmps103
  go_wp2_with (first|(go_at_call 141;(with_reducible refine cmono ?_ (HBB.out _ ?_ ?_ ?_ ?_ ?_ ?_ ?_ ?_));rotate_left;omega;omega;omega;omega;omega;omega;omega;omega;rintro e w' ⟨rfl,hbc0⟩;obtain ⟨⟨dc0,osc0⟩,rfl⟩:=regrown_of_below hbc0;clear hbc0)|((with_reducible refine wp_region_quiet_below ?_ ?_ ?_);kernel_rfl;kernel_rfl;(repeat (go_big_quiet_step (first|(go_at_call 141;(with_reducible refine Calls.regrown_of (HBB.out _ ?_ ?_ ?_ ?_ ?_ ?_ ?_ ?_));omega;omega;omega;omega;omega;omega;omega;omega))));refine wpQuiet_nil ?_;intro _ hw';obtain ⟨⟨dq,osq⟩,hw''⟩:=hw';subst hw''))
  go_ret2
  exact ⟨rfl,(by repeat (first|exact Below.refl _ _|refine below_reg ?_ _ _|refine below_alloc ?_ _|exact below_drewN ?_ _|assumption))⟩
def mulR (p:Int) (q:Nat) (r:Int) (t:Nat):Int × Int × Int :=
 buildN (!(decide (p.tdiv (Nat.gcd t p.natAbs)<0) == decide (r.tdiv (Nat.gcd q r.natAbs)<0))) ((p.tdiv (Nat.gcd t p.natAbs)).natAbs*(r.tdiv (Nat.gcd q r.natAbs)).natAbs)
  (q / Nat.gcd q r.natAbs*(t / Nat.gcd t p.natAbs))
theorem times_both (a b:Int) (hi lo:Nat) (h:Two hi lo (a.natAbs*b.natAbs)) (w:World) (h0 : -9223372036854775808≤a) (h1:a≤9223372036854775807) (h2 : -9223372036854775808≤b) (h3:b≤9223372036854775807) :
  Calls Tryz.prog 143 #[.int .i64 a,.int .i64 b] w fun en w'=>en=.returned (.agg #[.bool (!(decide (a<0) == decide (b<0))),.int .u64 hi,.int .u64 lo])∧Below w.heap.size w w':=by
 refine (times_any a b w h0 h1 h2 h3).mono fun e w' ⟨he,hb⟩=>⟨?_,hb⟩
 obtain ⟨rfl,rfl⟩:=h
 rw [he]
 cases decide (a<0)<;>cases decide (b<0)<;>rfl
theorem mul_valid (p r:Int) (q t:Nat) (w:World) (p0 : -9223372036854775807≤p) (p1:p≤9223372036854775807) (r0 : -9223372036854775807≤r) (r1:r≤9223372036854775807)
  (q0:0<q) (q1:q≤9223372036854775807) (t0:0<t) (t1:t≤9223372036854775807) (hv:bth p q r t=0) :
  Calls Tryz.prog 88 #[.agg #[.int .i64 p,.int .i64 q],.agg #[.int .i64 r,.int .i64 t]] w fun e w' =>
   e=.returned (.tuple #[.agg #[.int .i64 (mulR p q r t).1,.int .i64 (mulR p q r t).2.1],.int .i64 (mulR p q r t).2.2])∧Below w.heap.size w w':=by
 have HB:=both_any p q r t
 rw [hv] at HB
 have HBB:=Lib.hid HB
 clear HB hv
 unfold mulR
 have g0:0<Nat.gcd t p.natAbs:=Nat.gcd_pos_of_pos_left _ t0
 have h0:0<Nat.gcd q r.natAbs:=Nat.gcd_pos_of_pos_left _ q0
 have gt:Nat.gcd t p.natAbs≤t:=Nat.le_of_dvd t0 (Nat.gcd_dvd_left _ _)
 have hq:Nat.gcd q r.natAbs≤q:=Nat.le_of_dvd q0 (Nat.gcd_dvd_left _ _)
 obtain ⟨g,hg⟩:∃ g,g=Nat.gcd t p.natAbs:=⟨_,rfl⟩
 obtain ⟨h,hh⟩:∃ h,h=Nat.gcd q r.natAbs:=⟨_,rfl⟩
 have HG:=fun w=>gcd_any t p.natAbs w
 have HH:=fun w=>gcd_any q r.natAbs w
 rw [← hg] at g0 gt HG ⊢
 rw [← hh] at h0 hq HH ⊢
 have HGG:=Lib.hid HG
 have HHH:=Lib.hid HH
 have hx:=tdiv_small p g p0 p1
 have hy:=tdiv_small r h r0 r1
 obtain ⟨x,hxd⟩:∃ x,x=p.tdiv (g:Int):=⟨_,rfl⟩
 obtain ⟨y,hyd⟩:∃ y,y=r.tdiv (h:Int):=⟨_,rfl⟩
 have X:p.tdiv (g:Int)=x:=hxd.symm
 have Y:r.tdiv (h:Int)=y:=hyd.symm
 rw [X] at hx ⊢
 rw [Y] at hy ⊢
 obtain ⟨x0,x1⟩:=hx
 obtain ⟨y0,y1⟩:=hy
 have uq:=Nat.div_le_self q h
 have vt:=Nat.div_le_self t g
 obtain ⟨u,hud⟩:∃ u,u=q / h:=⟨_,rfl⟩
 obtain ⟨v,hvd⟩:∃ v,v=t / g:=⟨_,rfl⟩
 have U:(q:Int).tdiv (h:Int)=(u:Int):=by rw [hud];rfl
 have V:(t:Int).tdiv (g:Int)=(v:Int):=by rw [hvd];rfl
 have U2:(q:Int) / (h:Int)=(u:Int):=by rw [hud];rfl
 have V2:(t:Int) / (g:Int)=(v:Int):=by rw [hvd];rfl
 rw [← hud] at uq ⊢
 rw [← hvd] at vt ⊢
 obtain ⟨f1,f2,hf⟩:=two_mk (u*v)
 obtain ⟨c1,c2,hc⟩:=two_mk (x.natAbs*y.natAbs)
 have M1:=Lib.hid (mul64_two u v f1 f2 hf)
 have T1:=Lib.hid (times_both x y c1 c2 hc)
 obtain ⟨m,hm⟩:∃ m,m=x.natAbs*y.natAbs:=⟨_,rfl⟩
 rw [← hm] at hc ⊢
 have B1:=Lib.hid (build_two (!(decide (x<0) == decide (y<0))) c1 c2 f1 f2 m (u*v) hc hf)
 have gz:((g:Int) == 0)=false:=by simp;omega
 have hz:((h:Int) == 0)=false:=by simp;omega
 clear HG HH hg hh hxd hyd hud hvd hf hc hm
 go_enter Tryz.func88,Tryz.ntmps88
 go_wp2_with (first|(go_at_call 141;(with_reducible refine cmono ?_ (HBB.out _ ?_ ?_ ?_ ?_ ?_ ?_ ?_ ?_));rotate_left;omega;omega;omega;omega;omega;omega;omega;omega;rintro e w' ⟨rfl,hbc0⟩;obtain ⟨⟨dc0,osc0⟩,rfl⟩:=regrown_of_below hbc0;clear hbc0)|(go_at_call 81;(with_reducible refine cmono ?_ (abs_any _ _ ?_ ?_));rotate_left;omega;omega;rintro e w' ⟨rfl,hbc1⟩;obtain ⟨⟨dc1,osc1⟩,rfl⟩:=regrown_of_below hbc1;clear hbc1)|(go_at_call 80;(with_reducible refine cmono ?_ (HGG.out _));rotate_left;rintro e w' ⟨rfl,hbc2⟩;obtain ⟨⟨dc2,osc2⟩,rfl⟩:=regrown_of_below hbc2;clear hbc2)|(go_at_call 80;(with_reducible refine cmono ?_ (HHH.out _));rotate_left;rintro e w' ⟨rfl,hbc3⟩;obtain ⟨⟨dc3,osc3⟩,rfl⟩:=regrown_of_below hbc3;clear hbc3)|(go_at_call 126;(with_reducible refine cmono ?_ (M1.out _ ?_ ?_));rotate_left;omega;omega;rintro e w' ⟨rfl,hbc4⟩;obtain ⟨⟨dc4,osc4⟩,rfl⟩:=regrown_of_below hbc4;clear hbc4)|(go_at_call 143;(with_reducible refine cmono ?_ (T1.out _ ?_ ?_ ?_ ?_));rotate_left;omega;omega;omega;omega;rintro e w' ⟨rfl,hbc5⟩;obtain ⟨⟨dc5,osc5⟩,rfl⟩:=regrown_of_below hbc5;clear hbc5)|(go_at_call 142;(with_reducible refine cmono ?_ (B1.out _));rotate_left;rintro e w' ⟨rfl,hbc6⟩;obtain ⟨⟨dc6,osc6⟩,rfl⟩:=regrown_of_below hbc6;clear hbc6)|((with_reducible refine wp_region_quiet_below ?_ ?_ ?_);kernel_rfl;kernel_rfl;(repeat (go_big_quiet_step (first|(go_at_call 141;(with_reducible refine Calls.regrown_of (HBB.out _ ?_ ?_ ?_ ?_ ?_ ?_ ?_ ?_));omega;omega;omega;omega;omega;omega;omega;omega)|(go_at_call 81;(with_reducible refine Calls.regrown_of (abs_any _ _ ?_ ?_));omega;omega)|(go_at_call 80;(with_reducible refine Calls.regrown_of (HGG.out _)))|(go_at_call 80;(with_reducible refine Calls.regrown_of (HHH.out _)))|(go_at_call 126;(with_reducible refine Calls.regrown_of (M1.out _ ?_ ?_));omega;omega)|(go_at_call 143;(with_reducible refine Calls.regrown_of (T1.out _ ?_ ?_ ?_ ?_));omega;omega;omega;omega)|(go_at_call 142;(with_reducible refine Calls.regrown_of (B1.out _))))));refine wpQuiet_nil ?_;intro _ hw';obtain ⟨⟨dq,osq⟩,hw''⟩:=hw';subst hw'')|((with_reducible refine wp_region_tail_below 14 ?_ ?_ ?_);kernel_rfl;kernel_rfl;simp only [List.take_succ_cons,List.take_zero,List.drop_succ_cons,List.drop_zero];(repeat (go_big_quiet_step (first|(go_at_call 141;(with_reducible refine Calls.regrown_of (HBB.out _ ?_ ?_ ?_ ?_ ?_ ?_ ?_ ?_));omega;omega;omega;omega;omega;omega;omega;omega)|(go_at_call 81;(with_reducible refine Calls.regrown_of (abs_any _ _ ?_ ?_));omega;omega)|(go_at_call 80;(with_reducible refine Calls.regrown_of (HGG.out _)))|(go_at_call 80;(with_reducible refine Calls.regrown_of (HHH.out _)))|(go_at_call 126;(with_reducible refine Calls.regrown_of (M1.out _ ?_ ?_));omega;omega)|(go_at_call 143;(with_reducible refine Calls.regrown_of (T1.out _ ?_ ?_ ?_ ?_));omega;omega;omega;omega)|(go_at_call 142;(with_reducible refine Calls.regrown_of (B1.out _))))));refine wpQuiet_nil ?_;intro _ hw';obtain ⟨⟨dq,osq⟩,hw''⟩:=hw';subst hw''))
 refine bodyPost_ret (v:=.tuple #[.agg #[.int .i64 (buildN (!(decide (x<0) == decide (y<0))) m (u*v)).1,.int .i64 (buildN (!(decide (x<0) == decide (y<0))) m (u*v)).2.1],.int .i64 (buildN (!(decide (x<0) == decide (y<0))) m (u*v)).2.2]) (by simp [results,Tryz.results88,go_sem]) rfl ⟨rfl,(by repeat (first|exact Below.refl _ _|refine below_reg ?_ _ _|refine below_alloc ?_ _|exact below_drewN ?_ _|assumption))⟩
def mulV (p q r t:Int):Int × Int × Int:=if bth p q r t=0 then mulR p q.toNat r t.toNat else (0,0,8)
theorem mul_any (p q r t:Int) (w:World) (p0 : -9223372036854775808≤p) (p1:p≤9223372036854775807) (q0 : -9223372036854775808≤q) (q1:q≤9223372036854775807)
  (r0 : -9223372036854775808≤r) (r1:r≤9223372036854775807) (t0 : -9223372036854775808≤t) (t1:t≤9223372036854775807) :
  Calls Tryz.prog 88 #[.agg #[.int .i64 p,.int .i64 q],.agg #[.int .i64 r,.int .i64 t]] w fun e w' =>
   e=.returned (.tuple #[.agg #[.int .i64 (mulV p q r t).1,.int .i64 (mulV p q r t).2.1],.int .i64 (mulV p q r t).2.2])∧Below w.heap.size w w':=by
 unfold mulV
 rcases bth_08 p q r t with hv|hv
 ·rw [if_pos hv]
  obtain ⟨h1,h2⟩:=bth_ok hv
  obtain ⟨a1,a2,_⟩:=chk_ok h1
  obtain ⟨b1,b2,_⟩:=chk_ok h2
  obtain ⟨Q,rfl⟩:=Int.eq_ofNat_of_zero_le (show 0≤q by omega)
  obtain ⟨T,rfl⟩:=Int.eq_ofNat_of_zero_le (show 0≤t by omega)
  exact mul_valid p r Q T w (by omega) p1 (by omega) r1 (by omega) (by omega) (by omega) (by omega) hv
 ·rw [if_neg (by omega)]
  have HB:=both_any p q r t
  rw [hv] at HB
  have HBB:=Lib.hid HB
  clear HB hv
  go_enter Tryz.func88,Tryz.ntmps88
  go_wp2_with (first|(go_at_call 141;(with_reducible refine cmono ?_ (HBB.out _ ?_ ?_ ?_ ?_ ?_ ?_ ?_ ?_));rotate_left;omega;omega;omega;omega;omega;omega;omega;omega;rintro e w' ⟨rfl,hbc0⟩;obtain ⟨⟨dc0,osc0⟩,rfl⟩:=regrown_of_below hbc0;clear hbc0)|((with_reducible refine wp_region_quiet_below ?_ ?_ ?_);kernel_rfl;kernel_rfl;(repeat (go_big_quiet_step (first|(go_at_call 141;(with_reducible refine Calls.regrown_of (HBB.out _ ?_ ?_ ?_ ?_ ?_ ?_ ?_ ?_));omega;omega;omega;omega;omega;omega;omega;omega))));refine wpQuiet_nil ?_;intro _ hw';obtain ⟨⟨dq,osq⟩,hw''⟩:=hw';subst hw''))
  refine bodyPost_ret (v:=.tuple #[.agg #[.int .i64 0,.int .i64 0],.int .i64 8]) (by simp [results,Tryz.results88,go_sem]) rfl ⟨rfl,(by repeat (first|exact Below.refl _ _|refine below_reg ?_ _ _|refine below_alloc ?_ _|exact below_drewN ?_ _|assumption))⟩
end Go.Proofs.YtfkfficabeclcaaGreatDoor

namespace Go.Proofs.YtfkfficabeclcaaGreatDoor
open Go.RowKit Go.Sort
end Go.Proofs.YtfkfficabeclcaaGreatDoor

namespace Go.Proofs.YtfkfficabeclcaaGreatDoor
open Go.RowKit
end Go.Proofs.YtfkfficabeclcaaGreatDoor

namespace Go.Proofs.YtfkfficabeclcaaGreatDoor
open Go.RowKit Go.Sort
end Go.Proofs.YtfkfficabeclcaaGreatDoor

namespace Go.Proofs.YtfkfficabeclcaaGreatDoor
open Go.RowKit Go.Sort
end Go.Proofs.YtfkfficabeclcaaGreatDoor

namespace Go.Proofs.YtfkfficabeclcaaGreatDoor
open Go.RowKit
end Go.Proofs.YtfkfficabeclcaaGreatDoor

namespace Go.Proofs.YtfkfficabeclcaaGreatDoor
open Go.RowKit Go.Sort
end Go.Proofs.YtfkfficabeclcaaGreatDoor

namespace Go.Proofs.YtfkfficabeclcaaGreatDoor
open Go.RowKit Go.Sort
end Go.Proofs.YtfkfficabeclcaaGreatDoor

namespace Go.Proofs.YtfkfficabeclcaaGreatDoor
open Go.RowKit
def qv (n d:Int):Rat:=mkRat n d.toNat
theorem chk_iff (n d:Int):chk n d=0↔1≤d∧n ≠ -9223372036854775808∧n.natAbs.Coprime d.toNat:=by
 unfold chk Nat.Coprime
 rw [Nat.gcd_comm n.natAbs]
 have hg:1≤d→0<Nat.gcd d.toNat n.natAbs:=fun h=>Nat.gcd_pos_of_pos_left _ (by omega)
 split
 ·rename_i h
  constructor
  ·intro h';omega
  ·rintro ⟨h1,h2,h3⟩;exfalso;omega
 ·rename_i h
  have h1:1≤d:=by omega
  have:=hg h1
  exact ⟨fun _=>⟨h1,by omega,by omega⟩,fun _=>rfl⟩
theorem qv_num {n d:Int} (h:chk n d=0):(qv n d).num=n:=by
 obtain ⟨h1,_,h3⟩:=(chk_iff n d).1 h
 unfold qv
 rw [Rat.num_mkRat,if_neg (by omega),Nat.gcd_comm,show Nat.gcd n.natAbs d.toNat=1 from h3]
 simp
theorem qv_den {n d:Int} (h:chk n d=0):((qv n d).den:Int)=d:=by
 obtain ⟨h1,_,h3⟩:=(chk_iff n d).1 h
 unfold qv
 rw [Rat.den_mkRat,if_neg (by omega),Nat.gcd_comm,show Nat.gcd n.natAbs d.toNat=1 from h3]
 omega
theorem qv_den' {n d:Int} (h:chk n d=0):(qv n d).den=d.toNat:=by have:=qv_den h;omega
def outQ (q:Rat):Int × Int × Int:=if q.num.natAbs≤9223372036854775807∧q.den≤9223372036854775807 then (q.num,q.den,0) else (0,0,16)
theorem build_q (neg:Bool) (m d:Nat) (q:Rat) (hd:d=q.den) (hm:m=q.num.natAbs) (hs:q.num≠0→neg=decide (q.num<0)):buildN neg m d=outQ q:=by
 unfold buildN outQ
 subst hd hm
 split
 ·have:(if neg=true then -(q.num.natAbs:Int) else (q.num.natAbs:Int))=q.num:=by
   by_cases h0:q.num=0
   ·rw [h0];simp
   ·rw [hs h0]
    by_cases hn:q.num<0
    ·rw [decide_eq_true hn,if_pos rfl];omega
    ·rw [decide_eq_false hn,if_neg (by simp)];omega
  rw [this]
 ·rfl
theorem plus_rep (p r:Int) (x y:Nat):plusM (decide (p<0)) (decide (r<0)) (p.natAbs*x) (r.natAbs*y)=(p*x+r*y).natAbs ∧
  (p*x+r*y≠0→plusS (decide (p<0)) (decide (r<0)) (p.natAbs*x) (r.natAbs*y)=decide (p*x+r*y<0)):=by
 have e1:p.natAbs*x=(p*x).natAbs:=by rw [Int.natAbs_mul,Int.natAbs_natCast]
 have e2:r.natAbs*y=(r*y).natAbs:=by rw [Int.natAbs_mul,Int.natAbs_natCast]
 have s1:p*x<0→p<0:=fun h=>by
  rcases (show p<0∨0≤p by omega) with h'|h'
  ·exact h'
  ·have:=Int.mul_nonneg h' (show (0:Int)≤x by omega);omega
 have s2:r*y<0→r<0:=fun h=>by
  rcases (show r<0∨0≤r by omega) with h'|h'
  ·exact h'
  ·have:=Int.mul_nonneg h' (show (0:Int)≤y by omega);omega
 have t1:0<p*x→¬ p<0:=fun h h'=>by
  have:=Int.mul_nonpos_of_nonpos_of_nonneg (show p≤0 by omega) (show (0:Int)≤x by omega);omega
 have t2:0<r*y→¬ r<0:=fun h h'=>by
  have:=Int.mul_nonpos_of_nonpos_of_nonneg (show r≤0 by omega) (show (0:Int)≤y by omega);omega
 rw [e1,e2]
 generalize p*(x:Int)=X at *
 generalize r*(y:Int)=Y at *
 unfold plusM plusS
 by_cases hp:p<0<;>by_cases hr:r<0
 all_goals
  simp only [hp,hr,decide_true,decide_false,if_true,reduceIte,Bool.false_eq_true,Bool.true_eq_false]
  simp only [hp,hr,imp_false,not_true_eq_false,not_false_eq_true,implies_true] at s1 s2 t1 t2
  refine ⟨?_,fun hne => ?_⟩
 all_goals (repeat' split)
 all_goals first|omega|(symm;rw [decide_eq_true_eq];omega)|(symm;rw [decide_eq_false_iff_not];omega)
theorem addR_q {p q r t:Int} (h1:chk p q=0) (h2:chk r t=0):addR p q.toNat r t.toNat=outQ (qv p q+qv r t):=by
 obtain ⟨a1,a2,a3⟩:=(chk_iff p q).1 h1
 obtain ⟨b1,b2,b3⟩:=(chk_iff r t).1 h2
 have haux:=Rat.add.aux (qv p q) (qv r t) rfl rfl rfl
 have hsum:=Rat.add_def' (qv p q) (qv r t)
 rw [qv_num h1,qv_num h2,qv_den' h1,qv_den' h2] at haux hsum
 obtain ⟨Q,hQ⟩:∃ Q,Q=q.toNat:=⟨_,rfl⟩
 obtain ⟨T,hT⟩:∃ T,T=t.toNat:=⟨_,rfl⟩
 rw [← hQ,← hT] at haux hsum ⊢
 have q0:0<Q:=by omega
 have t0:0<T:=by omega
 unfold addR
 obtain ⟨c1,c2⟩:=plus_rep p r (T / Nat.gcd Q T) (Q / Nat.gcd Q T)
 rw [c1]
 have g0:0<Nat.gcd Q T:=Nat.gcd_pos_of_pos_left _ q0
 have gq:Nat.gcd Q T ∣ Q:=Nat.gcd_dvd_left _ _
 have gt:Nat.gcd Q T ∣ T:=Nat.gcd_dvd_right _ _
 generalize Nat.gcd Q T=g at *
 obtain ⟨y,rfl⟩:=gq
 obtain ⟨x,rfl⟩:=gt
 rw [Nat.mul_div_cancel_left _ g0,Nat.mul_div_cancel_left _ g0] at *
 have e:qv p q+qv r t=mkRat (p*x+r*y) (y*(g*x)):=by
  rw [hsum]
  have n1:p*((g*x:Nat):Int)+r*((g*y:Nat):Int)=(p*x+r*y)*(g:Int):=by
   rw [Int.natCast_mul,Int.natCast_mul,Int.add_mul,Int.mul_left_comm,Int.mul_comm (g:Int),Int.mul_left_comm r,Int.mul_comm (g:Int)]
  have n2:g*y*(g*x)=y*(g*x)*g:=by
   rw [Nat.mul_comm g y,Nat.mul_assoc,Nat.mul_assoc,Nat.mul_comm g (g*x)]
  rw [n1,n2]
  exact Rat.mkRat_mul_right (by omega)
 generalize hN:p*(x:Int)+r*(y:Int)=N at *
 have hh:Nat.gcd g (N.natAbs % g)=Nat.gcd (y*(g*x)) N.natAbs:=by
  rw [Nat.gcd_comm (y*(g*x)),← haux,Nat.gcd_comm N.natAbs g,Nat.gcd_rec g N.natAbs,Nat.gcd_comm]
 have hd0:y*(g*x)≠0:=by
  intro h0
  rcases Nat.mul_eq_zero.1 h0 with h0|h0
  ·subst h0;simp at q0
  ·omega
 have dg:Nat.gcd g (N.natAbs % g) ∣ g:=Nat.gcd_dvd_left _ _
 refine build_q _ _ _ _ ?_ ?_ ?_
 ·rw [e,Rat.den_mkRat,if_neg hd0,← hh]
  exact (Nat.mul_div_assoc _ (Nat.dvd_trans dg (Nat.dvd_mul_right _ _))).symm
 ·rw [e,Rat.num_mkRat,if_neg hd0,← hh]
  rw [Int.natAbs_ediv_of_dvd]
  ·simp
  ·rw [hh,← Int.dvd_natAbs,Int.ofNat_dvd]
   exact Nat.gcd_dvd_right _ _
 ·rw [e,Rat.num_mkRat,if_neg hd0,← hh]
  have hdv:((Nat.gcd g (N.natAbs % g):Nat):Int) ∣ N:=by
   rw [hh,← Int.dvd_natAbs,Int.ofNat_dvd]
   exact Nat.gcd_dvd_right _ _
  have hpos:(0:Int)<(Nat.gcd g (N.natAbs % g):Nat):=by
   have:=Nat.gcd_pos_of_pos_left (N.natAbs % g) g0
   omega
  intro hne
  obtain ⟨k,hk⟩:=hdv
  generalize ((Nat.gcd g (N.natAbs % g):Nat):Int)=G at *
  subst hk
  rw [Int.mul_ediv_cancel_left _ (by omega)] at hne ⊢
  rw [c2 (by intro h0;rcases Int.mul_eq_zero.1 h0 with h0|h0<;>omega)]
  have:G*k<0↔k<0:=by
   constructor
   ·intro h
    rcases (show k<0∨0≤k by omega) with h'|h'
    ·exact h'
    ·have:=Int.mul_nonneg (Int.le_of_lt hpos) h';omega
   ·intro h
    exact Int.mul_neg_of_pos_of_neg hpos h
  rw [decide_eq_decide]
  exact this
theorem tdiv_gcd (n:Int) (k:Nat):n.tdiv (Nat.gcd n.natAbs k:Nat)=n / (Nat.gcd n.natAbs k:Nat):=by
 refine Int.tdiv_eq_ediv_of_dvd ?_
 rw [← Int.dvd_natAbs,Int.ofNat_dvd]
 exact Nat.gcd_dvd_left _ _
theorem rat_mul_parts (a b:Rat):(a*b).num=a.num.tdiv (Nat.gcd a.num.natAbs b.den)*b.num.tdiv (Nat.gcd b.num.natAbs a.den)∧(a*b).den=a.den / Nat.gcd b.num.natAbs a.den*(b.den / Nat.gcd a.num.natAbs b.den):=by
 have h:a*b=Rat.mul a b:=rfl
 rw [h]
 unfold Rat.mul
 rw [tdiv_gcd,tdiv_gcd]
 constructor<;>simp
theorem mulR_q {p q r t:Int} (h1:chk p q=0) (h2:chk r t=0):mulR p q.toNat r t.toNat=outQ (qv p q*qv r t):=by
 obtain ⟨m1,m2⟩:=rat_mul_parts (qv p q) (qv r t)
 rw [qv_num h1,qv_num h2,qv_den' h1,qv_den' h2] at m1 m2
 obtain ⟨a1,a2,a3⟩:=(chk_iff p q).1 h1
 obtain ⟨b1,b2,b3⟩:=(chk_iff r t).1 h2
 unfold mulR
 rw [Nat.gcd_comm t.toNat,Nat.gcd_comm q.toNat]
 refine build_q _ _ _ _ ?_ ?_ ?_
 ·rw [m2]
 ·rw [m1,Int.natAbs_mul]
 ·rw [m1]
  generalize p.tdiv (Nat.gcd p.natAbs t.toNat:Nat)=X
  generalize r.tdiv (Nat.gcd r.natAbs q.toNat:Nat)=Y
  intro hne
  rcases Int.lt_trichotomy X 0 with hx|hx|hx<;>rcases Int.lt_trichotomy Y 0 with hy|hy|hy
  ·have:=Int.mul_pos_of_neg_of_neg hx hy
   rw [decide_eq_true hx,decide_eq_true hy,decide_eq_false (by omega)];rfl
  ·subst hy;simp at hne
  ·have:=Int.mul_neg_of_neg_of_pos hx hy
   rw [decide_eq_true hx,decide_eq_false (show ¬ Y<0 by omega),decide_eq_true this];rfl
  ·subst hx;simp at hne
  ·subst hx;simp at hne
  ·subst hx;simp at hne
  ·have:=Int.mul_neg_of_pos_of_neg hx hy
   rw [decide_eq_false (show ¬ X<0 by omega),decide_eq_true hy,decide_eq_true this];rfl
  ·subst hy;simp at hne
  ·have:=Int.mul_pos hx hy
   rw [decide_eq_false (show ¬ X<0 by omega),decide_eq_false (show ¬ Y<0 by omega),decide_eq_false (by omega)];rfl
theorem addV_q {p q r t:Int} (h1:chk p q=0) (h2:chk r t=0):addV p q r t=outQ (qv p q+qv r t):=by
 unfold addV
 rw [if_pos (by unfold bth;rw [if_pos h1,h2]),addR_q h1 h2]
theorem mulV_q {p q r t:Int} (h1:chk p q=0) (h2:chk r t=0):mulV p q r t=outQ (qv p q*qv r t):=by
 unfold mulV
 rw [if_pos (by unfold bth;rw [if_pos h1,h2]),mulR_q h1 h2]
theorem chk_neg {r t:Int} (h:chk r t=0) (hr:r≤9223372036854775807):chk (-r) t=0:=by
 obtain ⟨b1,b2,b3⟩:=(chk_iff r t).1 h
 exact (chk_iff _ _).2 ⟨b1,by omega,by rw [Int.natAbs_neg];exact b3⟩
theorem qv_neg (r t:Int):qv (-r) t = -qv r t:=by unfold qv;rw [Rat.neg_mkRat]
theorem subV_q {p q r t:Int} (h1:chk p q=0) (h2:chk r t=0) (hr:r≤9223372036854775807):subV p q r t=outQ (qv p q-qv r t):=by
 unfold subV
 rw [if_pos (by unfold bth;rw [if_pos h1,h2]),addV_q h1 (chk_neg h2 hr),qv_neg,Rat.sub_eq_add_neg]
theorem chk_rat (q:Rat) (h:q.num.natAbs≤9223372036854775807):chk q.num q.den=0 :=
 (chk_iff _ _).2 ⟨by have:=q.den_pos;omega,by omega,by rw [Int.toNat_natCast];exact q.reduced⟩
theorem qv_rat (q:Rat):qv q.num q.den=q:=by unfold qv;rw [Int.toNat_natCast,Rat.mkRat_self]
end Go.Proofs.YtfkfficabeclcaaGreatDoor

namespace Go.Proofs.YtfkfficabeclcaaGreatDoor
open Go.RowKit Go.Sort
theorem buildN_zero (x y:Bool) (d:Nat):buildN x 0 d=buildN y 0 d:=by unfold buildN;cases x<;>cases y<;>simp
end Go.Proofs.YtfkfficabeclcaaGreatDoor

namespace Go.Proofs.YtfkfficabeclcaaGreatDoor
open Go.RowKit Go.Sort
end Go.Proofs.YtfkfficabeclcaaGreatDoor

namespace Go.Proofs.YtfkfficabeclcaaGreatDoor
open Go.RowKit
theorem tri (a b:Rat):a<b∨a=b∨b<a:=by
 rcases Rat.le_total (a:=a) (b:=b) with h|h
 ·rcases Rat.le_iff_lt_or_eq.1 h with h|h
  ·exact .inl h
  ·exact .inr (.inl h)
 ·rcases Rat.le_iff_lt_or_eq.1 h with h|h
  ·exact .inr (.inr h)
  ·exact .inr (.inl h.symm)
theorem qv_inj {p q r t:Int} (h1:chk p q=0) (h2:chk r t=0):qv p q=qv r t↔p=r∧q=t:=by
 constructor
 ·intro h
  have e1:=qv_num h1
  have e2:=qv_den h1
  rw [h,qv_num h2] at e1
  rw [h,qv_den h2] at e2
  exact ⟨e1.symm,e2.symm⟩
 ·rintro ⟨rfl,rfl⟩;rfl
end Go.Proofs.YtfkfficabeclcaaGreatDoor

namespace Go.Proofs.YtfkfficabeclcaaGreatDoor
open Go.RowKit Go.Sort Sx
abbrev i64 (n:Int):D:=.v (.int .i64 n)
abbrev u64 (n:Int):D:=.v (.int .u64 n)
abbrev bol (b:Bool):D:=.v (.bool b)
theorem wd_i64 {n:Int}:WD (i64 n) ↔ -9223372036854775808≤n∧n≤9223372036854775807:=WD_v
theorem wd_u64 {n:Int}:WD (u64 n)↔0≤n∧n≤18446744073709551615:=WD_v
theorem wd1 {n d:Int} (h:WDCs [.agg [i64 n,i64 d]]) : -9223372036854775808≤n∧n≤9223372036854775807 ∧ -9223372036854775808≤d∧d≤9223372036854775807:=by
 simp only [WDCs,WDC,WDs,wd_i64] at h;omega
theorem wd2 {n d m e:Int} (h:WDCs [.agg [i64 n,i64 d],.agg [i64 m,i64 e]]):(-9223372036854775808≤n∧n≤9223372036854775807 ∧ -9223372036854775808≤d∧d≤9223372036854775807)∧(-9223372036854775808≤m∧m≤9223372036854775807 ∧ -9223372036854775808≤e∧e≤9223372036854775807):=by
 simp only [WDCs,WDC,WDs,wd_i64] at h;omega
theorem wdii {n m:Int} (h:WDCs [.one (i64 n),.one (i64 m)]) : -9223372036854775808≤n∧n≤9223372036854775807 ∧ -9223372036854775808≤m∧m≤9223372036854775807:=by
 simp only [WDCs,WDC,WDs,wd_i64] at h;omega
theorem cmpN_rng (a b:Int) : -1≤cmpN a b∧cmpN a b≤1:=by unfold cmpN;(repeat' split)<;>omega
theorem buildN_rng (x:Bool) (m n:Nat):(-9223372036854775807≤(buildN x m n).1∧(buildN x m n).1≤9223372036854775807)∧(0≤(buildN x m n).2.1∧(buildN x m n).2.1≤9223372036854775807)∧(0≤(buildN x m n).2.2∧(buildN x m n).2.2≤16):=by
 unfold buildN;split
 ·cases x<;>simp<;>omega
 ·simp
theorem askd_rng (n d:Int):0≤askd n d∧askd n d≤8:=by
 unfold askd
 rcases chk_08 n d with h|h<;>rw [h]<;>simp<;>(try split)<;>omega
theorem addV_rng (p q r t:Int):(-9223372036854775807≤(addV p q r t).1∧(addV p q r t).1≤9223372036854775807)∧(0≤(addV p q r t).2.1∧(addV p q r t).2.1≤9223372036854775807)∧(0≤(addV p q r t).2.2∧(addV p q r t).2.2≤16):=by
 unfold addV;split
 ·unfold addR;exact buildN_rng _ _ _
 ·simp
theorem mulV_rng (p q r t:Int):(-9223372036854775807≤(mulV p q r t).1∧(mulV p q r t).1≤9223372036854775807)∧(0≤(mulV p q r t).2.1∧(mulV p q r t).2.1≤9223372036854775807)∧(0≤(mulV p q r t).2.2∧(mulV p q r t).2.2≤16):=by
 unfold mulV;split
 ·unfold mulR;exact buildN_rng _ _ _
 ·simp
theorem subV_rng (p q r t:Int):(-9223372036854775807≤(subV p q r t).1∧(subV p q r t).1≤9223372036854775807)∧(0≤(subV p q r t).2.1∧(subV p q r t).2.1≤9223372036854775807)∧(0≤(subV p q r t).2.2∧(subV p q r t).2.2≤16):=by
 unfold subV;split
 ·exact addV_rng _ _ _ _
 ·simp
theorem makeV_rng (n d:Int):(-9223372036854775807≤(makeV n d).1∧(makeV n d).1≤9223372036854775807)∧(0≤(makeV n d).2.1∧(makeV n d).2.1≤9223372036854775807)∧(0≤(makeV n d).2.2∧(makeV n d).2.2≤26):=by
 unfold makeV;split
 ·simp
 ·have:=buildN_rng (!(decide (n<0) == decide (d<0))) (n.natAbs / Nat.gcd n.natAbs d.natAbs) (d.natAbs / Nat.gcd n.natAbs d.natAbs)
  omega
abbrev rat2 (p q r t:Int):List DC:=[.agg [i64 p,i64 q],.agg [i64 r,i64 t]]
abbrev ret3 (x:Int × Int × Int):DV:=.tup [.agg [i64 x.1,i64 x.2.1],.one (i64 x.2.2)]
abbrev ret2 (x:Int × Int):DV:=.tup [.one (i64 x.1),.one (i64 x.2)]
abbrev ret1 (x:Int):DV:=.c (.one (i64 x))
theorem cmp_fn (p q r t:Int):FnOK Tryz.prog 103 (rat2 p q r t) (ret2 (cmpV p q r t)):=by
 refine fn_of_calls (fun _ _=>Tryz.call103 _ _) rfl rfl (fun h => ?_) (fun h w => ?_)
 ·simp only [WDV,WDCs,WDC,wd_i64,and_true]
  unfold cmpV
  have:=cmpN_rng (p*t) (r*q)
  split<;>simp<;>omega
 ·obtain ⟨⟨_,_,_,_⟩,_,_,_,_⟩:=wd2 h
  exact cmp_any p q r t w (by omega) (by omega) (by omega) (by omega) (by omega) (by omega) (by omega) (by omega)
theorem sub_fn (p q r t:Int):FnOK Tryz.prog 89 (rat2 p q r t) (ret3 (subV p q r t)):=by
 refine fn_of_calls (fun _ _=>Tryz.call89 _ _) rfl rfl (fun h => ?_) (fun h w => ?_)
 ·simp only [WDV,WDCs,WDC,WDs,wd_i64,and_true]
  have:=subV_rng p q r t
  omega
 ·obtain ⟨⟨_,_,_,_⟩,_,_,_,_⟩:=wd2 h
  exact sub_any p q r t w (by omega) (by omega) (by omega) (by omega) (by omega) (by omega) (by omega) (by omega)
theorem mul_fn (p q r t:Int):FnOK Tryz.prog 88 (rat2 p q r t) (ret3 (mulV p q r t)):=by
 refine fn_of_calls (fun _ _=>Tryz.call88 _ _) rfl rfl (fun h => ?_) (fun h w => ?_)
 ·simp only [WDV,WDCs,WDC,WDs,wd_i64,and_true]
  have:=mulV_rng p q r t
  omega
 ·obtain ⟨⟨_,_,_,_⟩,_,_,_,_⟩:=wd2 h
  exact mul_any p q r t w (by omega) (by omega) (by omega) (by omega) (by omega) (by omega) (by omega) (by omega)
theorem make_fn (n d:Int):FnOK Tryz.prog 238 [.one (i64 n),.one (i64 d)] (ret3 (makeV n d)):=by
 refine fn_of_calls (fun _ _=>Tryz.call238 _ _) rfl rfl (fun h => ?_) (fun h w => ?_)
 ·simp only [WDV,WDCs,WDC,WDs,wd_i64,and_true]
  have:=makeV_rng n d
  omega
 ·obtain ⟨_,_,_,_⟩:=wdii h
  exact makeV_any n d w (by omega) (by omega) (by omega) (by omega)
theorem check_fn (n d:Int):FnOK Tryz.prog 40 [.agg [i64 n,i64 d]] (ret1 (chk n d)):=by
 refine fn_of_calls (fun _ _=>Tryz.call40 _ _) rfl rfl (fun h => ?_) (fun h w => ?_)
 ·simp only [WDV,WDCs,WDC,WDs,wd_i64,and_true]
  rcases chk_08 n d with h|h<;>omega
 ·obtain ⟨_,_,_,_⟩:=wd1 h
  exact check_any n d w (by omega) (by omega) (by omega) (by omega)
theorem asked_fn (n d:Int):FnOK Tryz.prog 67 [.agg [i64 n,i64 d]] (ret1 (askd n d)):=by
 refine fn_of_calls (fun _ _=>Tryz.call67 _ _) rfl rfl (fun h => ?_) (fun h w => ?_)
 ·simp only [WDV,WDCs,WDC,WDs,wd_i64,and_true]
  have:=askd_rng n d
  omega
 ·obtain ⟨_,_,_,_⟩:=wd1 h
  exact asked_any n d w (by omega) (by omega) (by omega) (by omega)
end Go.Proofs.YtfkfficabeclcaaGreatDoor

namespace Go.Proofs.YtfkfficabeclcaaGreatDoor
open Go.RowKit Go.Sort Sx
theorem gcd_fnd (a b:Nat):FnD Tryz.prog 80 [.one (u64 a),.one (u64 b)] (.c (.one (u64 (Nat.gcd a b:Nat)))):=by
 refine fn_okD (by kernel_rfl) ty_okD rfl Tryz.func80 rfl (fun _ _=>Tryz.call80 _ _) rfl ?_
 intro hw
 simp only [WDCs,WDC,wd_u64] at hw
 repeat' ((conv=>whnf);first|(with_reducible first|refine br_t ?_|refine br_f ?_|refine zd ?_|refine za ?_|refine zg ?_)|refine zp ?_|refine zq ?_|(with_reducible first|refine bc (fun h => ?_) (fun h => ?_)|refine zt ?_|refine zf ?_|refine br_i (fun h => ?_) (fun h => ?_))|refine zg ?_|refine zi ?_|refine zb ?_)
 refine loop_J (by kernel_rfl) ty_okD (σ:=Nat × Nat) (fun s=>[(0,sV (.int .u64 s.1)),(1,sV (.int .u64 s.2))]) (fun _=>[]) (fun s=>s.1≤18446744073709551615∧s.2≤18446744073709551615∧Nat.gcd s.1 s.2=Nat.gcd a b) (fun s=>s.2) (a,b) ⟨by show a≤_;omega,by show b≤_;omega,rfl⟩ ?_ ?_
 ·(conv=>whnf);exact zent
 rintro ⟨n,m⟩ ⟨h1,h2,h3⟩
 simp only at h1 h2 h3
 rcases Nat.eq_zero_or_pos m with h0|h0
 ·subst h0
  rw [Nat.gcd_zero_right] at h3
  rw [← h3]
  repeat' ((conv=>whnf);first|(with_reducible first|refine br_t ?_|refine br_f ?_|refine zd ?_|refine za ?_|refine zg ?_)|refine zp ?_|refine zq ?_|(with_reducible first|refine bc (fun h => ?_) (fun h => ?_)|refine zt ?_|refine zf ?_|refine br_i (fun h => ?_) (fun h => ?_))|refine zg ?_|refine zi ?_|refine zb ?_)
  all_goals conv=>whnf
  all_goals rfl
 ·have hne:(m:Int)≠0:=by omega
  have hlt:=Nat.mod_lt n h0
  have e1:IntKind.u64.wrap ((n:Int).tmod (m:Int))=((n % m:Nat):Int):=by rw [← Int.ofNat_tmod,IntKind.wrap_u64];generalize n % m=k at *;omega
  repeat' ((conv=>whnf);first|(with_reducible first|refine br_t ?_|refine br_f ?_|refine zd ?_|refine za ?_|refine zg ?_)|refine zp ?_|refine zq ?_|(with_reducible first|refine bc (fun h => ?_) (fun h => ?_)|refine zt ?_|refine zf ?_|refine br_i (fun h => ?_) (fun h => ?_))|refine zg ?_|refine zi ?_|refine zb ?_)
  all_goals conv=>whnf
  refine ⟨(m,n % m),⟨h2,by show n % m≤_;omega,by show Nat.gcd m (n % m)=_;rw [← h3,Nat.gcd_comm n m,Nat.gcd_rec m n,Nat.gcd_comm]⟩,?_,hlt⟩
  (conv=>whnf);exact zent
theorem abs_fnd (n:Int):FnD Tryz.prog 81 [.one (i64 n)] (.c (.one (u64 (n.natAbs:Nat)))):=by
 refine fn_okD (by kernel_rfl) ty_okD rfl Tryz.func81 rfl (fun _ _=>Tryz.call81 _ _) rfl ?_
 intro hw
 simp only [WDCs,WDC,wd_i64] at hw
 by_cases h:n<0
 all_goals
  repeat' ((conv=>whnf);first|(with_reducible first|refine br_t ?_|refine br_f ?_|refine zd ?_|refine za ?_|refine zg ?_)|refine zp ?_|refine zq ?_|(with_reducible first|refine bc (fun h => ?_) (fun h => ?_)|refine zt ?_|refine zf ?_|refine br_i (fun h => ?_) (fun h => ?_))|refine zg ?_|refine zi ?_|refine zb ?_)
  all_goals conv=>whnf
  all_goals
   refine r_int ?_
   simp only [IntKind.wrap_u64]
   omega
theorem check_fnd (n d:Int):FnD Tryz.prog 40 [.agg [i64 n,i64 d]] (ret1 (chk n d)):=by
 refine fn_okD (by kernel_rfl) ty_okD rfl Tryz.func40 rfl (fun _ _=>Tryz.call40 _ _) rfl ?_
 intro hw
 simp only [WDCs,WDC,WDs,wd_i64] at hw
 unfold chk
 by_cases h1:d<1
 ·rw [if_pos (.inl h1)]
  repeat' ((conv=>whnf);first|(with_reducible first|refine br_t ?_|refine br_f ?_|refine zd ?_|refine za ?_|refine zg ?_)|refine zp ?_|refine zq ?_|(with_reducible first|refine bc (fun h => ?_) (fun h => ?_)|refine zt ?_|refine zf ?_|refine br_i (fun h => ?_) (fun h => ?_))|refine zg ?_|refine zi ?_|refine zb ?_)
  all_goals conv=>whnf
  all_goals rfl
 ·by_cases h2:n = -9223372036854775808
  ·rw [if_pos (.inr (.inl h2))]
   repeat' ((conv=>whnf);first|(with_reducible first|refine br_t ?_|refine br_f ?_|refine zd ?_|refine za ?_|refine zg ?_)|refine zp ?_|refine zq ?_|(with_reducible first|refine bc (fun h => ?_) (fun h => ?_)|refine zt ?_|refine zf ?_|refine br_i (fun h => ?_) (fun h => ?_))|refine zg ?_|refine zi ?_|refine zb ?_)
   all_goals conv=>whnf
   all_goals rfl
  ·obtain ⟨e,rfl⟩:=Int.eq_ofNat_of_zero_le (show 0≤d by omega)
   have ew:IntKind.u64.wrap (e:Int)=e:=by rw [IntKind.wrap_u64];omega
   have H1:=abs_fnd n
   have H2:FnD Tryz.prog 80 [.one (u64 (IntKind.u64.wrap (e:Int))),.one (u64 (n.natAbs:Nat))] (.c (.one (u64 (Nat.gcd e n.natAbs:Nat)))):=by rw [ew];exact gcd_fnd e n.natAbs
   rw [Int.toNat_natCast]
   generalize Nat.gcd e n.natAbs=g at *
   generalize n.natAbs=m at *
   by_cases h3:1<g
   ·rw [if_pos (.inr (.inr h3))]
    repeat' ((conv=>whnf);first|(with_reducible first|refine br_t ?_|refine br_f ?_|refine zd ?_|refine za ?_|refine zg ?_)|refine zp ?_|refine zq ?_|(with_reducible first|refine bc (fun h => ?_) (fun h => ?_)|refine zt ?_|refine zf ?_|refine br_i (fun h => ?_) (fun h => ?_))|refine zg ?_|refine zi ?_|refine zb ?_)
    all_goals conv=>whnf
    all_goals rfl
   ·rw [if_neg (by simp only [not_or];exact ⟨h1,h2,h3⟩)]
    repeat' ((conv=>whnf);first|(with_reducible first|refine br_t ?_|refine br_f ?_|refine zd ?_|refine za ?_|refine zg ?_)|refine zp ?_|refine zq ?_|(with_reducible first|refine bc (fun h => ?_) (fun h => ?_)|refine zt ?_|refine zf ?_|refine br_i (fun h => ?_) (fun h => ?_))|refine zg ?_|refine zi ?_|refine zb ?_)
    all_goals conv=>whnf
    all_goals rfl
theorem both_fnd (p q r t:Int):FnD Tryz.prog 141 (rat2 p q r t) (ret1 (bth p q r t)):=by
 refine fn_okD (by kernel_rfl) ty_okD rfl Tryz.func141 rfl (fun _ _=>Tryz.call141 _ _) rfl ?_
 intro hw
 clear hw
 have H1:=check_fnd p q
 have H2:=check_fnd r t
 have e:bth p q r t=if chk p q<chk r t then chk r t else chk p q:=by
  unfold bth
  rcases chk_08 p q with h1|h1<;>rcases chk_08 r t with h2|h2<;>rw [h1,h2]<;>decide
 rw [e]
 generalize chk p q=x at *
 generalize chk r t=y at *
 repeat' ((conv=>whnf);first|(with_reducible first|refine br_t ?_|refine br_f ?_|refine zd ?_|refine za ?_|refine zg ?_)|refine zp ?_|refine zq ?_|(with_reducible first|refine bc (fun h => ?_) (fun h => ?_)|refine zt ?_|refine zf ?_|refine br_i (fun h => ?_) (fun h => ?_))|refine zg ?_|refine zi ?_|refine zb ?_)
 all_goals conv=>whnf
 all_goals exact r_int (by unfold maxI;(repeat' split)<;>omega)
theorem nani_fnd (n:Int):FnD Tryz.prog 212 [.one (i64 n)] (.c (.one (bol false))):=by
 refine fn_okD (by kernel_rfl) ty_okD rfl Tryz.func212 rfl (fun _ _=>Tryz.call212 _ _) rfl ?_
 intro hw
 repeat' ((conv=>whnf);first|(with_reducible first|refine br_t ?_|refine br_f ?_|refine zd ?_|refine za ?_|refine zg ?_)|refine zp ?_|refine zq ?_|(with_reducible first|refine bc (fun h => ?_) (fun h => ?_)|refine zt ?_|refine zf ?_|refine br_i (fun h => ?_) (fun h => ?_))|refine zg ?_|refine zi ?_|refine zb ?_)
 all_goals conv=>whnf
 all_goals first|rfl|exact r_bool (by simp)
theorem cmpi_fnd (a b:Int):FnD Tryz.prog 162 [.one (i64 a),.one (i64 b)] (ret1 (cmpN a b)):=by
 refine fn_okD (by kernel_rfl) ty_okD rfl Tryz.func162 rfl (fun _ _=>Tryz.call162 _ _) rfl ?_
 intro hw
 have H1:=nani_fnd a
 have H2:=nani_fnd b
 repeat' ((conv=>whnf);first|(with_reducible first|refine br_t ?_|refine br_f ?_|refine zd ?_|refine za ?_|refine zg ?_)|refine zp ?_|refine zq ?_|(with_reducible first|refine bc (fun h => ?_) (fun h => ?_)|refine zt ?_|refine zf ?_|refine br_i (fun h => ?_) (fun h => ?_))|refine zg ?_|refine zi ?_|refine zb ?_)
 all_goals conv=>whnf
 all_goals
  refine r_int ?_
  unfold cmpN
  (repeat' split)<;>omega
theorem nanu_fnd (n:Int):FnD Tryz.prog 241 [.one (u64 n)] (.c (.one (bol false))):=by
 refine fn_okD (by kernel_rfl) ty_okD rfl Tryz.func241 rfl (fun _ _=>Tryz.call241 _ _) rfl ?_
 intro hw
 repeat' ((conv=>whnf);first|(with_reducible first|refine br_t ?_|refine br_f ?_|refine zd ?_|refine za ?_|refine zg ?_)|refine zp ?_|refine zq ?_|(with_reducible first|refine bc (fun h => ?_) (fun h => ?_)|refine zt ?_|refine zf ?_|refine br_i (fun h => ?_) (fun h => ?_))|refine zg ?_|refine zi ?_|refine zb ?_)
 all_goals conv=>whnf
 all_goals first|rfl|exact r_bool (by simp)
theorem cmpu_fnd (a b:Int):FnD Tryz.prog 213 [.one (u64 a),.one (u64 b)] (ret1 (cmpN a b)):=by
 refine fn_okD (by kernel_rfl) ty_okD rfl Tryz.func213 rfl (fun _ _=>Tryz.call213 _ _) rfl ?_
 intro hw
 have H1:=nanu_fnd a
 have H2:=nanu_fnd b
 repeat' ((conv=>whnf);first|(with_reducible first|refine br_t ?_|refine br_f ?_|refine zd ?_|refine za ?_|refine zg ?_)|refine zp ?_|refine zq ?_|(with_reducible first|refine bc (fun h => ?_) (fun h => ?_)|refine zt ?_|refine zf ?_|refine br_i (fun h => ?_) (fun h => ?_))|refine zg ?_|refine zi ?_|refine zb ?_)
 all_goals conv=>whnf
 all_goals
  refine r_int ?_
  unfold cmpN
  (repeat' split)<;>omega
theorem mul64_fnd (X Y:Nat):FnD Tryz.prog 126 [.one (u64 X),.one (u64 Y)] (.tup [.one (u64 (X*Y / 18446744073709551616:Nat)),.one (u64 (X*Y % 18446744073709551616:Nat))]):=by
 refine fnD_of_calls (fun _ _=>Tryz.call126 _ _) rfl rfl (fun h => ?_) (fun h w => ?_)
 all_goals simp only [WDCs,WDC,wd_u64] at h
 ·simp only [WDV,WDCs,WDC,wd_u64,and_true]
  have h1:X*Y≤18446744073709551615*18446744073709551615:=Nat.mul_le_mul (by omega) (by omega)
  omega
 ·exact (Tryz.bits_Mul64 X Y (by omega) (by omega) w).mono fun e w' ⟨he,hw⟩=>⟨he,by rw [hw];exact Below.refl _ _,by rw [hw];exact Nat.le_refl _⟩
abbrev wideC (x:Bool) (m:Nat):DC:=.agg [bol x,u64 (m / 18446744073709551616:Nat),u64 (m % 18446744073709551616:Nat)]
theorem times_fnd (a b:Int):FnD Tryz.prog 143 [.one (i64 a),.one (i64 b)] (.c (wideC (decide (a<0) != decide (b<0)) (a.natAbs*b.natAbs))):=by
 refine fn_okD (by kernel_rfl) ty_okD rfl Tryz.func143 rfl (fun _ _=>Tryz.call143 _ _) rfl ?_
 intro hw
 clear hw
 have H1:=abs_fnd a
 have H2:=abs_fnd b
 have H3:=mul64_fnd a.natAbs b.natAbs
 generalize a.natAbs*b.natAbs=m at *
 repeat' ((conv=>whnf);first|(with_reducible first|refine br_t ?_|refine br_f ?_|refine zd ?_|refine za ?_|refine zg ?_)|refine zp ?_|refine zq ?_|(with_reducible first|refine bc (fun h => ?_) (fun h => ?_)|refine zt ?_|refine zf ?_|refine br_i (fun h => ?_) (fun h => ?_))|refine zg ?_|refine zi ?_|refine zb ?_)
 all_goals conv=>whnf
 all_goals rfl
theorem compare_fnd (x y:Bool) (m n:Nat):FnD Tryz.prog 163 [wideC x m,wideC y n] (ret1 (cmpN m n)):=by
 refine fn_okD (by kernel_rfl) ty_okD rfl Tryz.func163 rfl (fun _ _=>Tryz.call163 _ _) rfl ?_
 intro hw
 clear hw
 have H1:=cmpu_fnd ((m / 18446744073709551616:Nat):Int) ((n / 18446744073709551616:Nat):Int)
 have H2:=cmpu_fnd ((m % 18446744073709551616:Nat):Int) ((n % 18446744073709551616:Nat):Int)
 have e:=cmpN_hi (m / 18446744073709551616) (m % 18446744073709551616) (n / 18446744073709551616) (n % 18446744073709551616) (Nat.mod_lt _ (by decide)) (Nat.mod_lt _ (by decide))
 rw [Nat.div_add_mod',Nat.div_add_mod'] at e
 rw [e]
 generalize cmpN ((m / 18446744073709551616:Nat):Int) ((n / 18446744073709551616:Nat):Int)=u at *
 generalize cmpN ((m % 18446744073709551616:Nat):Int) ((n % 18446744073709551616:Nat):Int)=v at *
 repeat' ((conv=>whnf);first|(with_reducible first|refine br_t ?_|refine br_f ?_|refine zd ?_|refine za ?_|refine zg ?_)|refine zp ?_|refine zq ?_|(with_reducible first|refine bc (fun h => ?_) (fun h => ?_)|refine zt ?_|refine zf ?_|refine br_i (fun h => ?_) (fun h => ?_))|refine zg ?_|refine zi ?_|refine zb ?_)
 all_goals conv=>whnf
 all_goals exact r_int (by simp [*])
theorem bth_c {p q r t:Int} (h:bth p q r t=0):chk p q=0∧chk r t=0:=by
 unfold bth at h
 split at h
 ·exact ⟨by assumption,h⟩
 ·omega
theorem cmpN_neg (x y:Int):cmpN (-x) (-y) = -cmpN x y:=by
 unfold cmpN
 (repeat' split)<;>omega
theorem tup2_eq {a b c:Int} (h:a=b):DV.tup [.one (i64 a),.one (i64 c)]=ret2 (b,c):=by rw [h]
theorem cmp_fnd (p q r t:Int):FnD Tryz.prog 103 (rat2 p q r t) (ret2 (cmpV p q r t)):=by
 have H1:=both_fnd p q r t
 unfold cmpV
 by_cases hb:bth p q r t=0
 ·rw [if_pos hb]
  rw [hb] at H1
  obtain ⟨c1,c2⟩:=bth_c hb
  obtain ⟨a1,a2,_⟩:=(chk_iff p q).1 c1
  obtain ⟨b1,b2,_⟩:=(chk_iff r t).1 c2
  have H2:=cmpi_fnd p r
  have H3:=times_fnd p t
  have H4:=times_fnd r q
  have H5:=compare_fnd (decide (p<0) != decide (t<0)) (decide (r<0) != decide (q<0)) (p.natAbs*t.natAbs) (r.natAbs*q.natAbs)
  have hpt:(p<0∧p*t<0∧p*t = -((p.natAbs*t.natAbs:Nat):Int))∨0≤p∧0≤p*t∧p*t=((p.natAbs*t.natAbs:Nat):Int):=by
   rw [← Int.natAbs_mul]
   rcases Int.lt_or_le p 0 with h|h
   ·have:=Int.mul_neg_of_neg_of_pos h (show 0<t by omega);exact .inl ⟨h,this,by omega⟩
   ·have:=Int.mul_nonneg h (show 0≤t by omega);exact .inr ⟨h,this,by omega⟩
  have hrq:(r<0∧r*q<0∧r*q = -((r.natAbs*q.natAbs:Nat):Int))∨0≤r∧0≤r*q∧r*q=((r.natAbs*q.natAbs:Nat):Int):=by
   rw [← Int.natAbs_mul]
   rcases Int.lt_or_le r 0 with h|h
   ·have:=Int.mul_neg_of_neg_of_pos h (show 0<q by omega);exact .inl ⟨h,this,by omega⟩
   ·have:=Int.mul_nonneg h (show 0≤q by omega);exact .inr ⟨h,this,by omega⟩
  generalize p.natAbs*t.natAbs=m at *
  generalize r.natAbs*q.natAbs=n at *
  generalize p*t=x at *
  generalize r*q=y at *
  clear c1 c2 hb
  have e3:(decide (p<0) != decide (t<0))=decide (p<0):=by rw [show decide (t<0)=false from decide_eq_false (by omega)];simp
  have e4:(decide (r<0) != decide (q<0))=decide (r<0):=by rw [show decide (q<0)=false from decide_eq_false (by omega)];simp
  rw [e3] at H3 H5
  rw [e4] at H4 H5
  clear e3 e4
  rcases hpt with ⟨p1,p2,p3⟩|⟨p1,p2,p3⟩<;>rcases hrq with ⟨r1,r2,r3⟩|⟨r1,r2,r3⟩
  ·have e:cmpN x y = -cmpN m n:=by rw [p3,r3,cmpN_neg]
   have hr:=cmpN_rng (m:Int) n
   rw [e]
   generalize cmpN (m:Int) n=k at *
   rw [decide_eq_true p1] at H3 H5
   rw [decide_eq_true r1] at H4 H5
   have hne:(!(decide (p<0) == decide (r<0)))=false:=by simp [show p<0 from p1,show r<0 from r1]
   refine fn_okD (by kernel_rfl) ty_okD rfl Tryz.func103 rfl (fun _ _=>Tryz.call103 _ _) rfl ?_
   intro hw
   clear hw
   repeat' ((conv=>whnf);first|(with_reducible first|refine br_t ?_|refine br_f ?_|refine zd ?_|refine za ?_|refine zg ?_)|refine zp ?_|refine zq ?_|(with_reducible first|refine bc (fun h => ?_) (fun h => ?_)|refine zt ?_|refine zf ?_|refine br_i (fun h => ?_) (fun h => ?_))|refine zg ?_|refine zi ?_|refine zb ?_)
   all_goals conv=>whnf
   all_goals exact tup2_eq (by rw [IntWalk.i64_in _ (by omega)];omega)
  ·have e:cmpN p r=cmpN x y:=by unfold cmpN;(repeat' split)<;>omega
   rw [← e]
   have hne:(!(decide (p<0) == decide (r<0)))=true:=by simp [show p<0 from p1,show ¬ r<0 by omega]
   refine fn_okD (by kernel_rfl) ty_okD rfl Tryz.func103 rfl (fun _ _=>Tryz.call103 _ _) rfl ?_
   intro hw
   clear hw
   repeat' ((conv=>whnf);first|(with_reducible first|refine br_t ?_|refine br_f ?_|refine zd ?_|refine za ?_|refine zg ?_)|refine zp ?_|refine zq ?_|(with_reducible first|refine bc (fun h => ?_) (fun h => ?_)|refine zt ?_|refine zf ?_|refine br_i (fun h => ?_) (fun h => ?_))|refine zg ?_|refine zi ?_|refine zb ?_)
   all_goals conv=>whnf
   all_goals rfl
  ·have e:cmpN p r=cmpN x y:=by unfold cmpN;(repeat' split)<;>omega
   rw [← e]
   have hne:(!(decide (p<0) == decide (r<0)))=true:=by simp [show ¬ p<0 by omega,show r<0 from r1]
   refine fn_okD (by kernel_rfl) ty_okD rfl Tryz.func103 rfl (fun _ _=>Tryz.call103 _ _) rfl ?_
   intro hw
   clear hw
   repeat' ((conv=>whnf);first|(with_reducible first|refine br_t ?_|refine br_f ?_|refine zd ?_|refine za ?_|refine zg ?_)|refine zp ?_|refine zq ?_|(with_reducible first|refine bc (fun h => ?_) (fun h => ?_)|refine zt ?_|refine zf ?_|refine br_i (fun h => ?_) (fun h => ?_))|refine zg ?_|refine zi ?_|refine zb ?_)
   all_goals conv=>whnf
   all_goals rfl
  ·rw [p3,r3]
   generalize cmpN (m:Int) n=k at *
   rw [decide_eq_false (show ¬ p<0 by omega)] at H3 H5
   rw [decide_eq_false (show ¬ r<0 by omega)] at H4 H5
   have hne:(!(decide (p<0) == decide (r<0)))=false:=by simp [show ¬ p<0 by omega,show ¬ r<0 by omega]
   refine fn_okD (by kernel_rfl) ty_okD rfl Tryz.func103 rfl (fun _ _=>Tryz.call103 _ _) rfl ?_
   intro hw
   clear hw
   repeat' ((conv=>whnf);first|(with_reducible first|refine br_t ?_|refine br_f ?_|refine zd ?_|refine za ?_|refine zg ?_)|refine zp ?_|refine zq ?_|(with_reducible first|refine bc (fun h => ?_) (fun h => ?_)|refine zt ?_|refine zf ?_|refine br_i (fun h => ?_) (fun h => ?_))|refine zg ?_|refine zi ?_|refine zb ?_)
   all_goals conv=>whnf
   all_goals rfl
 ·rw [if_neg hb]
  have h8:bth p q r t=8:=(bth_08 p q r t).resolve_left hb
  rw [h8] at H1
  refine fn_okD (by kernel_rfl) ty_okD rfl Tryz.func103 rfl (fun _ _=>Tryz.call103 _ _) rfl ?_
  intro hw
  clear hw
  repeat' ((conv=>whnf);first|(with_reducible first|refine br_t ?_|refine br_f ?_|refine zd ?_|refine za ?_|refine zg ?_)|refine zp ?_|refine zq ?_|(with_reducible first|refine bc (fun h => ?_) (fun h => ?_)|refine zt ?_|refine zf ?_|refine br_i (fun h => ?_) (fun h => ?_))|refine zg ?_|refine zi ?_|refine zb ?_)
  all_goals conv=>whnf
  all_goals rfl
end Go.Proofs.YtfkfficabeclcaaGreatDoor

namespace Go.Proofs.YtfkfficabeclcaaGreatDoor
open Go.RowKit Go.Sort Sx
abbrev pt (i a b:Int):DC:=.agg [i64 i,i64 a,i64 b]
abbrev rat (n d:Int):DC:=.agg [i64 n,i64 d]
def far (n:Int):Bool:=decide (n < -1048576∨n > 1048576)
theorem far_t {n:Int} {A B:Prop} (h1:n < -1048576∨1048576<n→A) (h2 : -1048576≤n∧n≤1048576→B):br (far n) A B:=brd h1 fun h=>h2 (by omega)
theorem far_y {n:Int} {A B:Prop} (e:n < -1048576∨1048576<n) (h:A):br (far n) A B:=brd_t e h
theorem far_n {n:Int} {A B:Prop} (e : -1048576≤n∧n≤1048576) (h:B):br (far n) A B:=brd_f (by omega) h
def cpt (i a b:Int):Int:=if 0≤i∧i≤65535 ∧ -1048576≤a∧a≤1048576 ∧ -1048576≤b∧b≤1048576 then 0 else 8
theorem cpt_08 (i a b:Int):cpt i a b=0∨cpt i a b=8:=by unfold cpt;split<;>simp
theorem cpt_ok {i a b:Int} (h:cpt i a b=0):0≤i∧i≤65535 ∧ -1048576≤a∧a≤1048576 ∧ -1048576≤b∧b≤1048576:=by
 unfold cpt at h;split at h
 ·assumption
 ·cases h
theorem kfar_fnd (n : Int) : FnD Tryz.prog 125 [.one (i64 n)] (.c (.one (bol (far n)))) := by
  refine fn_okD (by kernel_rfl) ty_okD rfl Tryz.func125 rfl (fun _ _ => Tryz.call125 _ _) rfl ?_
  intro hw
  repeat' ((conv => whnf); first | (with_reducible first | refine br_t ?_ | refine br_f ?_ | refine zd ?_ | refine za ?_ | refine zg ?_) | refine zp ?_ | refine zq ?_ | (with_reducible first | refine bc (fun h => ?_) (fun h => ?_) | refine zt ?_ | refine zf ?_ | refine br_i (fun h => ?_) (fun h => ?_)) | refine zg ?_ | refine zi ?_ | refine zb ?_)
  all_goals conv => whnf
  all_goals
    refine r_bool ?_
    unfold far
    first
    | exact (decide_eq_true (by omega)).symm
    | (have e : (n > 1048576) = (n < -1048576 ∨ n > 1048576) := propext ⟨.inr, fun h => by omega⟩
       exact decide_eq_decide.2 (by omega))
theorem kCheck_fnd (i a b:Int):FnD Tryz.prog 71 [pt i a b] (ret1 (cpt i a b)):=by
 refine fn_okD (by kernel_rfl) ty_okD rfl Tryz.func71 rfl (fun _ _=>Tryz.call71 _ _) rfl ?_
 intro hw
 repeat' ((conv=>whnf);first|(with_reducible first|refine br_t ?_|refine br_f ?_|refine zd ?_|refine za ?_|refine zg ?_|refine xi (kfar_fnd _) ?_)|first|((with_reducible refine far_y ?_ ?_);omega)|((with_reducible refine far_n ?_ ?_);omega)|(with_reducible refine far_t (fun h => ?_) (fun h => ?_))|refine zp ?_|refine zq ?_|(with_reducible first|refine bc (fun h => ?_) (fun h => ?_)|refine zt ?_|refine zf ?_|refine br_i (fun h => ?_) (fun h => ?_))|refine zg ?_|refine zi ?_|refine zb ?_)
 all_goals conv=>whnf
 all_goals
  refine r_int ?_
  unfold cpt
  first
  | rw [if_pos (by omega)]
  | rw [if_neg (by omega)]
theorem kCheck_fn (i a b:Int):FnOK Tryz.prog 71 [pt i a b] (ret1 (cpt i a b)):=(kCheck_fnd i a b).ok
end Go.Proofs.YtfkfficabeclcaaGreatDoor
