import Derived.Test.YtddbmpbihpkabaaGreatGLGPartsAP
set_option linter.all false
namespace Go.Proofs.YtddbmpbihpkabaaGreat
open Go.RowKit Go.Sort Sx
set_option maxRecDepth 2000
theorem gcd_fnd (a b:Nat):FnD Tryz.prog 103 [.one (u64 a),.one (u64 b)] (.c (.one (u64 (Nat.gcd a b:Nat)))):=by
 refine fn_okD (by kernel_rfl) ty_okD rfl Tryz.func103 rfl (fun _ _=>Tryz.call103 _ _) rfl ?_
 intro hw
 simp only [WDCs,WDC,wd_u64] at hw
 repeat' ((conv=>whnf);first|(with_reducible first|refine br_t ?_|refine br_f ?_|refine zd ?_|refine za ?_|refine zg ?_)|refine zp ?_|refine zq ?_|(with_reducible first|refine bc (fun h => ?_) (fun h => ?_)|refine zt ?_|refine zf ?_|refine br_i (fun h => ?_) (fun h => ?_))|refine zg ?_|refine zi ?_|refine zb ?_)
 refine loop_J (by kernel_rfl) ty_okD (σ:=Nat × Nat) (fun s=>[(0,sV (.int .u64 s.1)),(1,sV (.int .u64 s.2))]) (fun _=>[]) (fun s=>s.1≤18446744073709551615∧s.2≤18446744073709551615∧Nat.gcd s.1 s.2=Nat.gcd a b) (fun s=>s.2) (a,b) ⟨by show a≤_;omega,by show b≤_;omega,rfl⟩ ?_ ?_
 ·(conv=>whnf);exact zent
 rintro ⟨n,m⟩ ⟨h1,h2,h3⟩
 simp only at h1 h2 h3
 rcases Nat.eq_zero_or_pos m with h0|h0
 ·subst h0
  rw [Nat.gcd_zero_right] at h3
  rw [← h3]
  repeat' ((conv=>whnf);first|(with_reducible first|refine br_t ?_|refine br_f ?_|refine zd ?_|refine za ?_|refine zg ?_)|refine zp ?_|refine zq ?_|(with_reducible first|refine bc (fun h => ?_) (fun h => ?_)|refine zt ?_|refine zf ?_|refine br_i (fun h => ?_) (fun h => ?_))|refine zg ?_|refine zi ?_|refine zb ?_)
  all_goals conv=>whnf
  all_goals rfl
 ·have hne:(m:Int)≠0:=by omega
  have hlt:=Nat.mod_lt n h0
  have e1:IntKind.u64.wrap ((n:Int).tmod (m:Int))=((n % m:Nat):Int):=by rw [← Int.ofNat_tmod,IntKind.wrap_u64];generalize n % m=k at *;omega
  repeat' ((conv=>whnf);first|(with_reducible first|refine br_t ?_|refine br_f ?_|refine zd ?_|refine za ?_|refine zg ?_)|refine zp ?_|refine zq ?_|(with_reducible first|refine bc (fun h => ?_) (fun h => ?_)|refine zt ?_|refine zf ?_|refine br_i (fun h => ?_) (fun h => ?_))|refine zg ?_|refine zi ?_|refine zb ?_)
  all_goals conv=>whnf
  refine ⟨(m,n % m),⟨h2,by show n % m≤_;omega,by show Nat.gcd m (n % m)=_;rw [← h3,Nat.gcd_comm n m,Nat.gcd_rec m n,Nat.gcd_comm]⟩,?_,hlt⟩
  (conv=>whnf);exact zent
theorem abs_fnd (n:Int):FnD Tryz.prog 73 [.one (i64 n)] (.c (.one (u64 (n.natAbs:Nat)))):=by
 refine fn_okD (by kernel_rfl) ty_okD rfl Tryz.func73 rfl (fun _ _=>Tryz.call73 _ _) rfl ?_
 intro hw
 simp only [WDCs,WDC,wd_i64] at hw
 by_cases h:n<0
 all_goals
  repeat' ((conv=>whnf);first|(with_reducible first|refine br_t ?_|refine br_f ?_|refine zd ?_|refine za ?_|refine zg ?_)|refine zp ?_|refine zq ?_|(with_reducible first|refine bc (fun h => ?_) (fun h => ?_)|refine zt ?_|refine zf ?_|refine br_i (fun h => ?_) (fun h => ?_))|refine zg ?_|refine zi ?_|refine zb ?_)
  all_goals conv=>whnf
  all_goals
   refine r_int ?_
   simp only [IntKind.wrap_u64]
   omega
theorem check_fnd (n d:Int):FnD Tryz.prog 72 [.agg [i64 n,i64 d]] (ret1 (chk n d)):=by
 refine fn_okD (by kernel_rfl) ty_okD rfl Tryz.func72 rfl (fun _ _=>Tryz.call72 _ _) rfl ?_
 intro hw
 simp only [WDCs,WDC,WDs,wd_i64] at hw
 unfold chk
 by_cases h1:d<1
 ·rw [if_pos (.inl h1)]
  repeat' ((conv=>whnf);first|(with_reducible first|refine br_t ?_|refine br_f ?_|refine zd ?_|refine za ?_|refine zg ?_)|refine zp ?_|refine zq ?_|(with_reducible first|refine bc (fun h => ?_) (fun h => ?_)|refine zt ?_|refine zf ?_|refine br_i (fun h => ?_) (fun h => ?_))|refine zg ?_|refine zi ?_|refine zb ?_)
  all_goals conv=>whnf
  all_goals rfl
 ·by_cases h2:n = -9223372036854775808
  ·rw [if_pos (.inr (.inl h2))]
   repeat' ((conv=>whnf);first|(with_reducible first|refine br_t ?_|refine br_f ?_|refine zd ?_|refine za ?_|refine zg ?_)|refine zp ?_|refine zq ?_|(with_reducible first|refine bc (fun h => ?_) (fun h => ?_)|refine zt ?_|refine zf ?_|refine br_i (fun h => ?_) (fun h => ?_))|refine zg ?_|refine zi ?_|refine zb ?_)
   all_goals conv=>whnf
   all_goals rfl
  ·obtain ⟨e,rfl⟩:=Int.eq_ofNat_of_zero_le (show 0≤d by omega)
   have ew:IntKind.u64.wrap (e:Int)=e:=by rw [IntKind.wrap_u64];omega
   have H1:=abs_fnd n
   have H2:FnD Tryz.prog 103 [.one (u64 (IntKind.u64.wrap (e:Int))),.one (u64 (n.natAbs:Nat))] (.c (.one (u64 (Nat.gcd e n.natAbs:Nat)))):=by rw [ew];exact gcd_fnd e n.natAbs
   rw [Int.toNat_natCast]
   generalize Nat.gcd e n.natAbs=g at *
   generalize n.natAbs=m at *
   by_cases h3:1<g
   ·rw [if_pos (.inr (.inr h3))]
    repeat' ((conv=>whnf);first|(with_reducible first|refine br_t ?_|refine br_f ?_|refine zd ?_|refine za ?_|refine zg ?_)|refine zp ?_|refine zq ?_|(with_reducible first|refine bc (fun h => ?_) (fun h => ?_)|refine zt ?_|refine zf ?_|refine br_i (fun h => ?_) (fun h => ?_))|refine zg ?_|refine zi ?_|refine zb ?_)
    all_goals conv=>whnf
    all_goals rfl
   ·rw [if_neg (by simp only [not_or];exact ⟨h1,h2,h3⟩)]
    repeat' ((conv=>whnf);first|(with_reducible first|refine br_t ?_|refine br_f ?_|refine zd ?_|refine za ?_|refine zg ?_)|refine zp ?_|refine zq ?_|(with_reducible first|refine bc (fun h => ?_) (fun h => ?_)|refine zt ?_|refine zf ?_|refine br_i (fun h => ?_) (fun h => ?_))|refine zg ?_|refine zi ?_|refine zb ?_)
    all_goals conv=>whnf
    all_goals rfl
theorem both_fnd (p q r t:Int):FnD Tryz.prog 79 (rat2 p q r t) (ret1 (bth p q r t)):=by
 refine fn_okD (by kernel_rfl) ty_okD rfl Tryz.func79 rfl (fun _ _=>Tryz.call79 _ _) rfl ?_
 intro hw
 clear hw
 have H1:=check_fnd p q
 have H2:=check_fnd r t
 have e:bth p q r t=if chk p q<chk r t then chk r t else chk p q:=by
  unfold bth
  rcases chk_08 p q with h1|h1<;>rcases chk_08 r t with h2|h2<;>rw [h1,h2]<;>decide
 rw [e]
 generalize chk p q=x at *
 generalize chk r t=y at *
 repeat' ((conv=>whnf);first|(with_reducible first|refine br_t ?_|refine br_f ?_|refine zd ?_|refine za ?_|refine zg ?_)|refine zp ?_|refine zq ?_|(with_reducible first|refine bc (fun h => ?_) (fun h => ?_)|refine zt ?_|refine zf ?_|refine br_i (fun h => ?_) (fun h => ?_))|refine zg ?_|refine zi ?_|refine zb ?_)
 all_goals conv=>whnf
 all_goals exact r_int (by unfold maxI;(repeat' split)<;>omega)
theorem nani_fnd (n:Int):FnD Tryz.prog 110 [.one (i64 n)] (.c (.one (bol false))):=by
 refine fn_okD (by kernel_rfl) ty_okD rfl Tryz.func110 rfl (fun _ _=>Tryz.call110 _ _) rfl ?_
 intro hw
 repeat' ((conv=>whnf);first|(with_reducible first|refine br_t ?_|refine br_f ?_|refine zd ?_|refine za ?_|refine zg ?_)|refine zp ?_|refine zq ?_|(with_reducible first|refine bc (fun h => ?_) (fun h => ?_)|refine zt ?_|refine zf ?_|refine br_i (fun h => ?_) (fun h => ?_))|refine zg ?_|refine zi ?_|refine zb ?_)
 all_goals conv=>whnf
 all_goals first|rfl|exact r_bool (by simp)
theorem cmpi_fnd (a b:Int):FnD Tryz.prog 80 [.one (i64 a),.one (i64 b)] (ret1 (cmpN a b)):=by
 refine fn_okD (by kernel_rfl) ty_okD rfl Tryz.func80 rfl (fun _ _=>Tryz.call80 _ _) rfl ?_
 intro hw
 have H1:=nani_fnd a
 have H2:=nani_fnd b
 repeat' ((conv=>whnf);first|(with_reducible first|refine br_t ?_|refine br_f ?_|refine zd ?_|refine za ?_|refine zg ?_)|refine zp ?_|refine zq ?_|(with_reducible first|refine bc (fun h => ?_) (fun h => ?_)|refine zt ?_|refine zf ?_|refine br_i (fun h => ?_) (fun h => ?_))|refine zg ?_|refine zi ?_|refine zb ?_)
 all_goals conv=>whnf
 all_goals
  refine r_int ?_
  unfold cmpN
  (repeat' split)<;>omega
theorem nanu_fnd (n:Int):FnD Tryz.prog 141 [.one (u64 n)] (.c (.one (bol false))):=by
 refine fn_okD (by kernel_rfl) ty_okD rfl Tryz.func141 rfl (fun _ _=>Tryz.call141 _ _) rfl ?_
 intro hw
 repeat' ((conv=>whnf);first|(with_reducible first|refine br_t ?_|refine br_f ?_|refine zd ?_|refine za ?_|refine zg ?_)|refine zp ?_|refine zq ?_|(with_reducible first|refine bc (fun h => ?_) (fun h => ?_)|refine zt ?_|refine zf ?_|refine br_i (fun h => ?_) (fun h => ?_))|refine zg ?_|refine zi ?_|refine zb ?_)
 all_goals conv=>whnf
 all_goals first|rfl|exact r_bool (by simp)
theorem cmpu_fnd (a b:Int):FnD Tryz.prog 111 [.one (u64 a),.one (u64 b)] (ret1 (cmpN a b)):=by
 refine fn_okD (by kernel_rfl) ty_okD rfl Tryz.func111 rfl (fun _ _=>Tryz.call111 _ _) rfl ?_
 intro hw
 have H1:=nanu_fnd a
 have H2:=nanu_fnd b
 repeat' ((conv=>whnf);first|(with_reducible first|refine br_t ?_|refine br_f ?_|refine zd ?_|refine za ?_|refine zg ?_)|refine zp ?_|refine zq ?_|(with_reducible first|refine bc (fun h => ?_) (fun h => ?_)|refine zt ?_|refine zf ?_|refine br_i (fun h => ?_) (fun h => ?_))|refine zg ?_|refine zi ?_|refine zb ?_)
 all_goals conv=>whnf
 all_goals
  refine r_int ?_
  unfold cmpN
  (repeat' split)<;>omega
theorem mul64_fnd (X Y:Nat):FnD Tryz.prog 112 [.one (u64 X),.one (u64 Y)] (.tup [.one (u64 (X*Y / 18446744073709551616:Nat)),.one (u64 (X*Y % 18446744073709551616:Nat))]):=by
 refine fnD_of_calls (fun _ _=>Tryz.call112 _ _) rfl rfl (fun h => ?_) (fun h w => ?_)
 all_goals simp only [WDCs,WDC,wd_u64] at h
 ·simp only [WDV,WDCs,WDC,wd_u64,and_true]
  have h1:X*Y≤18446744073709551615*18446744073709551615:=Nat.mul_le_mul (by omega) (by omega)
  omega
 ·exact (Tryz.bits_Mul64 X Y (by omega) (by omega) w).mono fun e w' ⟨he,hw⟩=>⟨he,by rw [hw];exact Below.refl _ _,by rw [hw];exact Nat.le_refl _⟩
abbrev wideC (x:Bool) (m:Nat):DC:=.agg [bol x,u64 (m / 18446744073709551616:Nat),u64 (m % 18446744073709551616:Nat)]
theorem times_fnd (a b:Int):FnD Tryz.prog 82 [.one (i64 a),.one (i64 b)] (.c (wideC (decide (a<0) != decide (b<0)) (a.natAbs*b.natAbs))):=by
 refine fn_okD (by kernel_rfl) ty_okD rfl Tryz.func82 rfl (fun _ _=>Tryz.call82 _ _) rfl ?_
 intro hw
 clear hw
 have H1:=abs_fnd a
 have H2:=abs_fnd b
 have H3:=mul64_fnd a.natAbs b.natAbs
 generalize a.natAbs*b.natAbs=m at *
 repeat' ((conv=>whnf);first|(with_reducible first|refine br_t ?_|refine br_f ?_|refine zd ?_|refine za ?_|refine zg ?_)|refine zp ?_|refine zq ?_|(with_reducible first|refine bc (fun h => ?_) (fun h => ?_)|refine zt ?_|refine zf ?_|refine br_i (fun h => ?_) (fun h => ?_))|refine zg ?_|refine zi ?_|refine zb ?_)
 all_goals conv=>whnf
 all_goals rfl
theorem compare_fnd (x y:Bool) (m n:Nat):FnD Tryz.prog 81 [wideC x m,wideC y n] (ret1 (cmpN m n)):=by
 refine fn_okD (by kernel_rfl) ty_okD rfl Tryz.func81 rfl (fun _ _=>Tryz.call81 _ _) rfl ?_
 intro hw
 clear hw
 have H1:=cmpu_fnd ((m / 18446744073709551616:Nat):Int) ((n / 18446744073709551616:Nat):Int)
 have H2:=cmpu_fnd ((m % 18446744073709551616:Nat):Int) ((n % 18446744073709551616:Nat):Int)
 have e:=cmpN_hi (m / 18446744073709551616) (m % 18446744073709551616) (n / 18446744073709551616) (n % 18446744073709551616) (Nat.mod_lt _ (by decide)) (Nat.mod_lt _ (by decide))
 rw [Nat.div_add_mod',Nat.div_add_mod'] at e
 rw [e]
 generalize cmpN ((m / 18446744073709551616:Nat):Int) ((n / 18446744073709551616:Nat):Int)=u at *
 generalize cmpN ((m % 18446744073709551616:Nat):Int) ((n % 18446744073709551616:Nat):Int)=v at *
 repeat' ((conv=>whnf);first|(with_reducible first|refine br_t ?_|refine br_f ?_|refine zd ?_|refine za ?_|refine zg ?_)|refine zp ?_|refine zq ?_|(with_reducible first|refine bc (fun h => ?_) (fun h => ?_)|refine zt ?_|refine zf ?_|refine br_i (fun h => ?_) (fun h => ?_))|refine zg ?_|refine zi ?_|refine zb ?_)
 all_goals conv=>whnf
 all_goals exact r_int (by simp [*])
theorem bth_c {p q r t:Int} (h:bth p q r t=0):chk p q=0∧chk r t=0:=by
 unfold bth at h
 split at h
 ·exact ⟨by assumption,h⟩
 ·omega
theorem cmpN_neg (x y:Int):cmpN (-x) (-y) = -cmpN x y:=by
 unfold cmpN
 (repeat' split)<;>omega
theorem tup2_eq {a b c:Int} (h:a=b):DV.tup [.one (i64 a),.one (i64 c)]=ret2 (b,c):=by rw [h]
theorem cmp_fnd (p q r t:Int):FnD Tryz.prog 53 (rat2 p q r t) (ret2 (cmpV p q r t)):=by
 have H1:=both_fnd p q r t
 unfold cmpV
 by_cases hb:bth p q r t=0
 ·rw [if_pos hb]
  rw [hb] at H1
  obtain ⟨c1,c2⟩:=bth_c hb
  obtain ⟨a1,a2,_⟩:=(chk_iff p q).1 c1
  obtain ⟨b1,b2,_⟩:=(chk_iff r t).1 c2
  have H2:=cmpi_fnd p r
  have H3:=times_fnd p t
  have H4:=times_fnd r q
  have H5:=compare_fnd (decide (p<0) != decide (t<0)) (decide (r<0) != decide (q<0)) (p.natAbs*t.natAbs) (r.natAbs*q.natAbs)
  have hpt:(p<0∧p*t<0∧p*t = -((p.natAbs*t.natAbs:Nat):Int))∨0≤p∧0≤p*t∧p*t=((p.natAbs*t.natAbs:Nat):Int):=by
   rw [← Int.natAbs_mul]
   rcases Int.lt_or_le p 0 with h|h
   ·have:=Int.mul_neg_of_neg_of_pos h (show 0<t by omega);exact .inl ⟨h,this,by omega⟩
   ·have:=Int.mul_nonneg h (show 0≤t by omega);exact .inr ⟨h,this,by omega⟩
  have hrq:(r<0∧r*q<0∧r*q = -((r.natAbs*q.natAbs:Nat):Int))∨0≤r∧0≤r*q∧r*q=((r.natAbs*q.natAbs:Nat):Int):=by
   rw [← Int.natAbs_mul]
   rcases Int.lt_or_le r 0 with h|h
   ·have:=Int.mul_neg_of_neg_of_pos h (show 0<q by omega);exact .inl ⟨h,this,by omega⟩
   ·have:=Int.mul_nonneg h (show 0≤q by omega);exact .inr ⟨h,this,by omega⟩
  generalize p.natAbs*t.natAbs=m at *
  generalize r.natAbs*q.natAbs=n at *
  generalize p*t=x at *
  generalize r*q=y at *
  clear c1 c2 hb
  have e3:(decide (p<0) != decide (t<0))=decide (p<0):=by rw [show decide (t<0)=false from decide_eq_false (by omega)];simp
  have e4:(decide (r<0) != decide (q<0))=decide (r<0):=by rw [show decide (q<0)=false from decide_eq_false (by omega)];simp
  rw [e3] at H3 H5
  rw [e4] at H4 H5
  clear e3 e4
  rcases hpt with ⟨p1,p2,p3⟩|⟨p1,p2,p3⟩<;>rcases hrq with ⟨r1,r2,r3⟩|⟨r1,r2,r3⟩
  ·have e:cmpN x y = -cmpN m n:=by rw [p3,r3,cmpN_neg]
   have hr:=cmpN_rng (m:Int) n
   rw [e]
   generalize cmpN (m:Int) n=k at *
   rw [decide_eq_true p1] at H3 H5
   rw [decide_eq_true r1] at H4 H5
   have hne:(!(decide (p<0) == decide (r<0)))=false:=by simp [show p<0 from p1,show r<0 from r1]
   refine fn_okD (by kernel_rfl) ty_okD rfl Tryz.func53 rfl (fun _ _=>Tryz.call53 _ _) rfl ?_
   intro hw
   clear hw
   repeat' ((conv=>whnf);first|(with_reducible first|refine br_t ?_|refine br_f ?_|refine zd ?_|refine za ?_|refine zg ?_)|refine zp ?_|refine zq ?_|(with_reducible first|refine bc (fun h => ?_) (fun h => ?_)|refine zt ?_|refine zf ?_|refine br_i (fun h => ?_) (fun h => ?_))|refine zg ?_|refine zi ?_|refine zb ?_)
   all_goals conv=>whnf
   all_goals exact tup2_eq (by rw [IntWalk.i64_in _ (by omega)];omega)
  ·have e:cmpN p r=cmpN x y:=by unfold cmpN;(repeat' split)<;>omega
   rw [← e]
   have hne:(!(decide (p<0) == decide (r<0)))=true:=by simp [show p<0 from p1,show ¬ r<0 by omega]
   refine fn_okD (by kernel_rfl) ty_okD rfl Tryz.func53 rfl (fun _ _=>Tryz.call53 _ _) rfl ?_
   intro hw
   clear hw
   repeat' ((conv=>whnf);first|(with_reducible first|refine br_t ?_|refine br_f ?_|refine zd ?_|refine za ?_|refine zg ?_)|refine zp ?_|refine zq ?_|(with_reducible first|refine bc (fun h => ?_) (fun h => ?_)|refine zt ?_|refine zf ?_|refine br_i (fun h => ?_) (fun h => ?_))|refine zg ?_|refine zi ?_|refine zb ?_)
   all_goals conv=>whnf
   all_goals rfl
  ·have e:cmpN p r=cmpN x y:=by unfold cmpN;(repeat' split)<;>omega
   rw [← e]
   have hne:(!(decide (p<0) == decide (r<0)))=true:=by simp [show ¬ p<0 by omega,show r<0 from r1]
   refine fn_okD (by kernel_rfl) ty_okD rfl Tryz.func53 rfl (fun _ _=>Tryz.call53 _ _) rfl ?_
   intro hw
   clear hw
   repeat' ((conv=>whnf);first|(with_reducible first|refine br_t ?_|refine br_f ?_|refine zd ?_|refine za ?_|refine zg ?_)|refine zp ?_|refine zq ?_|(with_reducible first|refine bc (fun h => ?_) (fun h => ?_)|refine zt ?_|refine zf ?_|refine br_i (fun h => ?_) (fun h => ?_))|refine zg ?_|refine zi ?_|refine zb ?_)
   all_goals conv=>whnf
   all_goals rfl
  ·rw [p3,r3]
   generalize cmpN (m:Int) n=k at *
   rw [decide_eq_false (show ¬ p<0 by omega)] at H3 H5
   rw [decide_eq_false (show ¬ r<0 by omega)] at H4 H5
   have hne:(!(decide (p<0) == decide (r<0)))=false:=by simp [show ¬ p<0 by omega,show ¬ r<0 by omega]
   refine fn_okD (by kernel_rfl) ty_okD rfl Tryz.func53 rfl (fun _ _=>Tryz.call53 _ _) rfl ?_
   intro hw
   clear hw
   repeat' ((conv=>whnf);first|(with_reducible first|refine br_t ?_|refine br_f ?_|refine zd ?_|refine za ?_|refine zg ?_)|refine zp ?_|refine zq ?_|(with_reducible first|refine bc (fun h => ?_) (fun h => ?_)|refine zt ?_|refine zf ?_|refine br_i (fun h => ?_) (fun h => ?_))|refine zg ?_|refine zi ?_|refine zb ?_)
   all_goals conv=>whnf
   all_goals rfl
 ·rw [if_neg hb]
  have h8:bth p q r t=8:=(bth_08 p q r t).resolve_left hb
  rw [h8] at H1
  refine fn_okD (by kernel_rfl) ty_okD rfl Tryz.func53 rfl (fun _ _=>Tryz.call53 _ _) rfl ?_
  intro hw
  clear hw
  repeat' ((conv=>whnf);first|(with_reducible first|refine br_t ?_|refine br_f ?_|refine zd ?_|refine za ?_|refine zg ?_)|refine zp ?_|refine zq ?_|(with_reducible first|refine bc (fun h => ?_) (fun h => ?_)|refine zt ?_|refine zf ?_|refine br_i (fun h => ?_) (fun h => ?_))|refine zg ?_|refine zi ?_|refine zb ?_)
  all_goals conv=>whnf
  all_goals rfl
end Go.Proofs.YtddbmpbihpkabaaGreat

namespace Go.Proofs.YtddbmpbihpkabaaGreat
open Go.RowKit Go.Sort Sx
set_option maxRecDepth 2000
abbrev pt (i a b:Int):DC:=.agg [i64 i,i64 a,i64 b]
abbrev rat (n d:Int):DC:=.agg [i64 n,i64 d]
def far (n:Int):Bool:=decide (n < -1048576∨n > 1048576)
theorem far_t {n:Int} {A B:Prop} (h1:n < -1048576∨1048576<n→A) (h2 : -1048576≤n∧n≤1048576→B):br (far n) A B:=brd h1 fun h=>h2 (by omega)
theorem far_y {n:Int} {A B:Prop} (e:n < -1048576∨1048576<n) (h:A):br (far n) A B:=brd_t e h
theorem far_n {n:Int} {A B:Prop} (e : -1048576≤n∧n≤1048576) (h:B):br (far n) A B:=brd_f (by omega) h
def cpt (i a b:Int):Int:=if 0≤i∧i≤65535 ∧ -1048576≤a∧a≤1048576 ∧ -1048576≤b∧b≤1048576 then 0 else 8
theorem cpt_08 (i a b:Int):cpt i a b=0∨cpt i a b=8:=by unfold cpt;split<;>simp
theorem cpt_ok {i a b:Int} (h:cpt i a b=0):0≤i∧i≤65535 ∧ -1048576≤a∧a≤1048576 ∧ -1048576≤b∧b≤1048576:=by
 unfold cpt at h;split at h
 ·assumption
 ·cases h
theorem kfar_fnd (n : Int) : FnD Tryz.prog 104 [.one (i64 n)] (.c (.one (bol (far n)))) := by
  refine fn_okD (by kernel_rfl) ty_okD rfl Tryz.func104 rfl (fun _ _ => Tryz.call104 _ _) rfl ?_
  intro hw
  repeat' ((conv => whnf); first | (with_reducible first | refine br_t ?_ | refine br_f ?_ | refine zd ?_ | refine za ?_ | refine zg ?_) | refine zp ?_ | refine zq ?_ | (with_reducible first | refine bc (fun h => ?_) (fun h => ?_) | refine zt ?_ | refine zf ?_ | refine br_i (fun h => ?_) (fun h => ?_)) | refine zg ?_ | refine zi ?_ | refine zb ?_)
  all_goals conv => whnf
  all_goals
    refine r_bool ?_
    unfold far
    first
    | exact (decide_eq_true (by omega)).symm
    | (have e : (n > 1048576) = (n < -1048576 ∨ n > 1048576) := propext ⟨.inr, fun h => by omega⟩
       exact decide_eq_decide.2 (by omega))
theorem kCheck_fnd (i a b:Int):FnD Tryz.prog 74 [pt i a b] (ret1 (cpt i a b)):=by
 refine fn_okD (by kernel_rfl) ty_okD rfl Tryz.func74 rfl (fun _ _=>Tryz.call74 _ _) rfl ?_
 intro hw
 repeat' ((conv=>whnf);first|(with_reducible first|refine br_t ?_|refine br_f ?_|refine zd ?_|refine za ?_|refine zg ?_|refine xi (kfar_fnd _) ?_)|first|((with_reducible refine far_y ?_ ?_);omega)|((with_reducible refine far_n ?_ ?_);omega)|(with_reducible refine far_t (fun h => ?_) (fun h => ?_))|refine zp ?_|refine zq ?_|(with_reducible first|refine bc (fun h => ?_) (fun h => ?_)|refine zt ?_|refine zf ?_|refine br_i (fun h => ?_) (fun h => ?_))|refine zg ?_|refine zi ?_|refine zb ?_)
 all_goals conv=>whnf
 all_goals
  refine r_int ?_
  unfold cpt
  first
  | rw [if_pos (by omega)]
  | rw [if_neg (by omega)]
theorem kCheck_fn (i a b:Int):FnOK Tryz.prog 74 [pt i a b] (ret1 (cpt i a b)):=(kCheck_fnd i a b).ok
theorem kkCheck_fn (i a b:Int):FnOK Tryz.prog 101 [pt i a b] (ret1 (cpt i a b)):=by
 refine fn_ok (by kernel_rfl) ty_ok Tryz.func101 rfl (fun _ _=>Tryz.call101 _ _) rfl ?_
 intro hw
 repeat' ((conv=>whnf);first|(with_reducible first|refine br_t ?_|refine br_f ?_|refine za ?_|refine zg ?_)|refine zp ?_|refine zq ?_|(with_reducible first|refine bc (fun h => ?_) (fun h => ?_)|refine zt ?_|refine zf ?_|refine br_i (fun h => ?_) (fun h => ?_))|refine zg ?_|refine zi ?_|refine zb ?_)
 all_goals conv=>whnf
 all_goals
  refine r_int ?_
  unfold cpt
  first
  | rw [if_pos (by omega)]
  | rw [if_neg (by omega)]
end Go.Proofs.YtddbmpbihpkabaaGreat

namespace Go.Proofs.YtddbmpbihpkabaaGreat
open Go.RowKit Go.Sort Sx
set_option maxRecDepth 2000
theorem mul64i_fnd (x y:Int):FnD Tryz.prog 112 [.one (u64 x),.one (u64 y)] (.tup [.one (u64 (x*y / 18446744073709551616)),.one (u64 (x*y % 18446744073709551616))]):=by
 refine fnD_of_calls (fun _ _=>Tryz.call112 _ _) rfl rfl (fun h => ?_) (fun h w => ?_)
 all_goals
  simp only [WDCs,WDC,wd_u64] at h
  obtain ⟨X,rfl⟩:=Int.eq_ofNat_of_zero_le (show 0≤x by omega)
  obtain ⟨Y,rfl⟩:=Int.eq_ofNat_of_zero_le (show 0≤y by omega)
 ·simp only [WDV,WDCs,WDC,wd_u64,and_true]
  have h1:X*Y≤18446744073709551615*18446744073709551615:=Nat.mul_le_mul (by omega) (by omega)
  rw [← Int.natCast_mul]
  omega
 ·exact (Tryz.bits_Mul64 X Y (by omega) (by omega) w).mono fun e w' ⟨he,hw⟩=>⟨he,by rw [hw];exact Below.refl _ _,by rw [hw];exact Nat.le_refl _⟩
theorem add64_fnd (x y c:Int) (h0:0≤c) (h1:c≤1):FnD Tryz.prog 123 [.one (u64 x),.one (u64 y),.one (u64 c)] (.tup [.one (u64 ((x+y+c) % 18446744073709551616)),.one (u64 ((x+y+c) / 18446744073709551616))]):=by
 refine fnD_of_run rfl rfl (fun h => ?_) (fun h w => ?_)
 all_goals
  simp only [WDCs,WDC,wd_u64] at h
  obtain ⟨X,rfl⟩:=Int.eq_ofNat_of_zero_le (show 0≤x by omega)
  obtain ⟨Y,rfl⟩:=Int.eq_ofNat_of_zero_le (show 0≤y by omega)
  obtain ⟨C,rfl⟩:=Int.eq_ofNat_of_zero_le h0
 ·simp only [WDV,WDCs,WDC,wd_u64,and_true]
  omega
 ·exact run_Add64 X Y C (by omega) w
theorem sub64_fn (x y c:Int) (h0:0≤c) (h1:c≤1):FnOK Tryz.prog 88 [.one (u64 x),.one (u64 y),.one (u64 c)] (.tup [.one (u64 ((x+18446744073709551616-y-c) % 18446744073709551616)),.one (u64 (if x<y+c then 1 else 0))]):=by
 refine fn_of_run rfl rfl (fun h => ?_) (fun h w => ?_)
 all_goals
  simp only [WDCs,WDC,wd_u64] at h
  obtain ⟨X,rfl⟩:=Int.eq_ofNat_of_zero_le (show 0≤x by omega)
  obtain ⟨Y,rfl⟩:=Int.eq_ofNat_of_zero_le (show 0≤y by omega)
  obtain ⟨C,rfl⟩:=Int.eq_ofNat_of_zero_le h0
 ·simp only [WDV,WDCs,WDC,wd_u64,and_true]
  split<;>omega
 ·have:=run_Sub64 X Y C (by omega) w
  rw [show ((X:Int)+18446744073709551616-Y-C) % 18446744073709551616=(((X+18446744073709551616-Y-C) % 18446744073709551616:Nat):Int) by omega,
   show (if (X:Int)<Y+C then (1:Int) else 0)=((if X<Y+C then 1 else 0:Nat):Int) by split<;>split<;>omega]
  exact this
theorem wrap_ex (x:Int):∃ j,IntKind.i64.wrap x=x+j*18446744073709551616:=by
 rw [IntKind.wrap_i64]
 exact ⟨-((x+9223372036854775808) / 18446744073709551616),by have:=Int.emod_add_mul_ediv (x+9223372036854775808) 18446744073709551616;omega⟩
theorem rd_lem (W H L T u v x y hi lo high c L' H' a b j1 j2 k:Int) (hx:x=u+a*W) (hy:y=v+b*W) (hm:x*y=hi*W+lo) (hhigh:high=hi-a*v-b*u+j1*W) (hc:L+lo=c*W+L') (hH:H'=H+high+c+j2*W)
  (hk:H*W+L=T+k*(W*W)):H'*W+L'=T+u*v+(k+j1+j2+a*b)*(W*W):=by
 have e1:lo=x*y-hi*W:=by omega
 have e2:L'=L+lo-c*W:=by omega
 have e3:T=H*W+L-k*(W*W):=by omega
 clear hm hc hk
 subst e3 e2 e1 hH hhigh hx hy
 grind
def Acc (H L T:Int):Prop:=(-9223372036854775808≤H∧H≤9223372036854775807)∧(0≤L∧L<18446744073709551616)∧∃ k,H*18446744073709551616+L=T+k*(18446744073709551616*18446744073709551616)
theorem u64_of (u:Int) (h0 : -9223372036854775808≤u) (h1:u≤9223372036854775807):IntKind.u64.wrap u=u+(if u<0 then 1 else 0)*18446744073709551616:=by
 rw [IntKind.wrap_u64];split<;>omega
def HighOK (u v high:Int):Prop:=∃ j,high=IntKind.u64.wrap u*IntKind.u64.wrap v / 18446744073709551616-(if u<0 then 1 else 0)*v-(if v<0 then 1 else 0)*u+j*18446744073709551616
theorem rdA {H L T u v high:Int} (hu : -9223372036854775808≤u∧u≤9223372036854775807) (hv : -9223372036854775808≤v∧v≤9223372036854775807) (h:Acc H L T) (hh:HighOK u v high) :
  Acc (IntKind.i64.wrap (IntKind.i64.wrap (H+high)+IntKind.i64.wrap ((L+IntKind.u64.wrap u*IntKind.u64.wrap v % 18446744073709551616+0) / 18446744073709551616)))
   ((L+IntKind.u64.wrap u*IntKind.u64.wrap v % 18446744073709551616+0) % 18446744073709551616) (T+u*v):=by
 obtain ⟨h1,h2,k,hk⟩:=h
 obtain ⟨j1,hj1⟩:=hh
 obtain ⟨j2,hj2⟩:=wrap_ex (H+high)
 have ex:=u64_of u hu.1 hu.2
 have ey:=u64_of v hv.1 hv.2
 generalize IntKind.u64.wrap u=x at *
 generalize IntKind.u64.wrap v=y at *
 generalize (if u<0 then (1:Int) else 0)=a at *
 generalize (if v<0 then (1:Int) else 0)=b at *
 have d1:=Int.emod_add_mul_ediv (x*y) 18446744073709551616
 have d2:=Int.emod_nonneg (x*y) (show (18446744073709551616:Int)≠0 by decide)
 have d3:=Int.emod_lt_of_pos (x*y) (show (0:Int)<18446744073709551616 by decide)
 generalize hlo:x*y % 18446744073709551616=lo at *
 generalize hhi:x*y / 18446744073709551616=hi at *
 rw [Int.add_zero]
 have hc:(0:Int)≤(L+lo) / 18446744073709551616∧(L+lo) / 18446744073709551616≤1:=by omega
 have hc2:=Int.emod_add_mul_ediv (L+lo) 18446744073709551616
 have hc3:0≤(L+lo) % 18446744073709551616∧(L+lo) % 18446744073709551616<18446744073709551616:=by omega
 generalize (L+lo) / 18446744073709551616=c at *
 generalize (L+lo) % 18446744073709551616=L' at *
 have ec:IntKind.i64.wrap c=c:=IntWalk.i64_in c (by omega)
 rw [ec]
 obtain ⟨j3,hj3⟩:=wrap_ex (IntKind.i64.wrap (H+high)+c)
 have hr:=inK_wrap .i64 (IntKind.i64.wrap (H+high)+c)
 refine ⟨hr,hc3,k+j1+(j2+j3)+a*b,?_⟩
 refine rd_lem 18446744073709551616 H L T u v x y hi lo high c L' _ a b j1 (j2+j3) k ex ey (by omega) hj1 (by omega) ?_ hk
 rw [hj3,hj2,Int.add_mul];omega
theorem high0 {u v:Int} (h1:¬ u<0) (h2:¬ v<0):HighOK u v (IntKind.i64.wrap (IntKind.u64.wrap u*IntKind.u64.wrap v / 18446744073709551616)):=by
 obtain ⟨j,hj⟩:=wrap_ex (IntKind.u64.wrap u*IntKind.u64.wrap v / 18446744073709551616)
 exact ⟨j,by rw [if_neg h1,if_neg h2,hj];omega⟩
theorem high1 {u v:Int} (h1:u<0) (h2:¬ v<0):HighOK u v (IntKind.i64.wrap (IntKind.i64.wrap (IntKind.u64.wrap u*IntKind.u64.wrap v / 18446744073709551616)-v)):=by
 obtain ⟨j,hj⟩:=wrap_ex (IntKind.u64.wrap u*IntKind.u64.wrap v / 18446744073709551616)
 obtain ⟨j2,hj2⟩:=wrap_ex (IntKind.i64.wrap (IntKind.u64.wrap u*IntKind.u64.wrap v / 18446744073709551616)-v)
 exact ⟨j+j2,by rw [if_pos h1,if_neg h2,hj2,hj,Int.add_mul];omega⟩
theorem high2 {u v:Int} (h1:¬ u<0) (h2:v<0):HighOK u v (IntKind.i64.wrap (IntKind.i64.wrap (IntKind.u64.wrap u*IntKind.u64.wrap v / 18446744073709551616)-u)):=by
 obtain ⟨j,hj⟩:=wrap_ex (IntKind.u64.wrap u*IntKind.u64.wrap v / 18446744073709551616)
 obtain ⟨j2,hj2⟩:=wrap_ex (IntKind.i64.wrap (IntKind.u64.wrap u*IntKind.u64.wrap v / 18446744073709551616)-u)
 exact ⟨j+j2,by rw [if_neg h1,if_pos h2,hj2,hj,Int.add_mul];omega⟩
theorem high3 {u v:Int} (h1:u<0) (h2:v<0):HighOK u v (IntKind.i64.wrap (IntKind.i64.wrap (IntKind.i64.wrap (IntKind.u64.wrap u*IntKind.u64.wrap v / 18446744073709551616)-v)-u)):=by
 obtain ⟨j,hj⟩:=wrap_ex (IntKind.u64.wrap u*IntKind.u64.wrap v / 18446744073709551616)
 obtain ⟨j2,hj2⟩:=wrap_ex (IntKind.i64.wrap (IntKind.u64.wrap u*IntKind.u64.wrap v / 18446744073709551616)-v)
 obtain ⟨j3,hj3⟩:=wrap_ex (IntKind.i64.wrap (IntKind.i64.wrap (IntKind.u64.wrap u*IntKind.u64.wrap v / 18446744073709551616)-v)-u)
 exact ⟨j+j2+j3,by rw [if_pos h1,if_pos h2,hj3,hj2,hj,Int.add_mul,Int.add_mul];omega⟩
theorem sum_end {H L S:Int} (h:Acc H L (0+S)) (hS : -85070591730234615865843651857942052864≤S∧S≤85070591730234615865843651857942052864) :
  (DV.c (.agg [i64 H,u64 L]))=.c (.agg [i64 (S / 18446744073709551616),u64 (S % 18446744073709551616)]):=by
 obtain ⟨h1,h2,k,hk⟩:=h
 have:k=0:=by omega
 subst this
 have e1:S / 18446744073709551616=H:=by omega
 have e2:S % 18446744073709551616=L:=by omega
 rw [e1,e2]
theorem acc0:Acc 0 0 0:=⟨by decide,by decide,0,by decide⟩
set_option maxHeartbeats 4000000 in
theorem sum_fnd (a d b n:Int) (hS : -85070591730234615865843651857942052864≤a*d+b*n∧a*d+b*n≤85070591730234615865843651857942052864) :
  FnD Tryz.prog 87 [.agg [i64 a,i64 d,i64 b,i64 n]] (.c (.agg [i64 ((a*d+b*n) / 18446744073709551616),u64 ((a*d+b*n) % 18446744073709551616)])):=by
 refine fn_okD (by kernel_rfl) ty_okD rfl Tryz.func87 rfl (fun _ _=>Tryz.call87 _ _) rfl ?_
 intro hw
 simp only [WDCs,WDC,WDs,wd_i64] at hw
 have e1:IntKind.i64.wrap (((0:Nat):Int)+1)=((1:Nat):Int):=rfl
 have e2:IntKind.i64.wrap (((1:Nat):Int)+1)=((2:Nat):Int):=rfl
 repeat' ((conv=>whnf);first|(with_reducible first|refine br_t ?_|refine br_f ?_|refine zd ?_|refine za ?_|refine zg ?_|refine xi (mul64i_fnd _ _) ?_|refine xi (add64_fnd _ _ _ (by omega) (by omega)) ?_)|refine zp ?_|refine zq ?_|(with_reducible first|refine bc (fun h => ?_) (fun h => ?_)|refine zt ?_|refine zf ?_|refine br_i (fun h => ?_) (fun h => ?_))|refine zg ?_|refine zi ?_|refine zb ?_)
 refine loop_I (by kernel_rfl) ty_okD (σ:=Nat × Int × Int)
  (fun s=>([(1,.c (.at (.ptr 1 0))),(2,.c (.at (.ptr 2 0))),(3,.c (.at (.ptr 3 0))),(11,.c (.agg [.d (i64 a),.d (i64 d),.d (i64 b),.d (i64 n)])),(12,sV (.int .i64 (s.1:Int)))],
   [(3,.own [.d (i64 s.2.1),.d (u64 s.2.2)]),(2,.own [.d (i64 0),.d (u64 0)]),(1,.own [.d (i64 a),.d (i64 d),.d (i64 b),.d (i64 n)])]))
  (fun s=>(s.1=0∧Acc s.2.1 s.2.2 0)∨(s.1=1∧Acc s.2.1 s.2.2 (0+a*d))∨(s.1=2∧Acc s.2.1 s.2.2 (0+a*d+b*n))) (fun s=>2-s.1) (0,0,0) (.inl ⟨rfl,acc0⟩) ⟨⟨rfl,rfl,rfl,rfl,rfl,trivial⟩,⟨rfl,rfl,rfl,trivial⟩,rfl⟩ ?_
 rintro ⟨i,Hh,Ll⟩ hI
 simp only at hI
 rcases hI with ⟨rfl,hA⟩|⟨rfl,hA⟩|⟨rfl,hA⟩
 ·have hA':=Lib.hid hA
  clear hA
  repeat' ((conv=>whnf);first|(with_reducible first|refine br_t ?_|refine br_f ?_|refine zd ?_|refine za ?_|refine zg ?_|refine xi (mul64i_fnd _ _) ?_|refine xi (add64_fnd _ _ _ (by omega) (by omega)) ?_)|refine zp ?_|refine zq ?_|(with_reducible first|refine bc (fun h => ?_) (fun h => ?_)|refine zt ?_|refine zf ?_|refine br_i (fun h => ?_) (fun h => ?_))|refine zg ?_|refine zi ?_|refine zb ?_)
  all_goals conv=>whnf
  all_goals
   refine ⟨(1,_,_),?_,⟨⟨rfl,rfl,rfl,rfl,rfl,trivial⟩,⟨rfl,rfl,rfl,trivial⟩,rfl⟩,by show 2-1<2-0;decide⟩
   refine .inr (.inl ⟨rfl,?_⟩)
   refine rdA (H:=Hh) (L:=Ll) (u:=a) (v:=d) (by omega) (by omega) hA'.out ?_
   with_reducible first
   | (exact high0 (by assumption) (by assumption))
   | (exact high1 (by assumption) (by assumption))
   | (exact high2 (by assumption) (by assumption))
   | (exact high3 (by assumption) (by assumption))
 ·have hA':=Lib.hid hA
  clear hA
  repeat' ((conv=>whnf);first|(with_reducible first|refine br_t ?_|refine br_f ?_|refine zd ?_|refine za ?_|refine zg ?_|refine xi (mul64i_fnd _ _) ?_|refine xi (add64_fnd _ _ _ (by omega) (by omega)) ?_)|refine zp ?_|refine zq ?_|(with_reducible first|refine bc (fun h => ?_) (fun h => ?_)|refine zt ?_|refine zf ?_|refine br_i (fun h => ?_) (fun h => ?_))|refine zg ?_|refine zi ?_|refine zb ?_)
  all_goals conv=>whnf
  all_goals
   refine ⟨(2,_,_),?_,⟨⟨rfl,rfl,rfl,rfl,rfl,trivial⟩,⟨rfl,rfl,rfl,trivial⟩,rfl⟩,by show 2-2<2-1;decide⟩
   refine .inr (.inr ⟨rfl,?_⟩)
   refine rdA (H:=Hh) (L:=Ll) (u:=b) (v:=n) (by omega) (by omega) hA'.out ?_
   with_reducible first
   | (exact high0 (by assumption) (by assumption))
   | (exact high1 (by assumption) (by assumption))
   | (exact high2 (by assumption) (by assumption))
   | (exact high3 (by assumption) (by assumption))
 ·have hA':=Lib.hid hA
  clear hA
  repeat' ((conv=>whnf);first|(with_reducible first|refine br_t ?_|refine br_f ?_|refine zd ?_|refine za ?_|refine zg ?_|refine xi (mul64i_fnd _ _) ?_|refine xi (add64_fnd _ _ _ (by omega) (by omega)) ?_)|refine zp ?_|refine zq ?_|(with_reducible first|refine bc (fun h => ?_) (fun h => ?_)|refine zt ?_|refine zf ?_|refine br_i (fun h => ?_) (fun h => ?_))|refine zg ?_|refine zi ?_|refine zb ?_)
  all_goals conv=>whnf
  rw [Int.add_assoc] at hA'
  exact sum_end hA'.out hS
theorem sum_fn (a d b n:Int) (hS : -85070591730234615865843651857942052864≤a*d+b*n∧a*d+b*n≤85070591730234615865843651857942052864) :
  FnOK Tryz.prog 87 [.agg [i64 a,i64 d,i64 b,i64 n]] (.c (.agg [i64 ((a*d+b*n) / 18446744073709551616),u64 ((a*d+b*n) % 18446744073709551616)])):=(sum_fnd a d b n hS).ok
end Go.Proofs.YtddbmpbihpkabaaGreat

namespace Go.Proofs.YtddbmpbihpkabaaGreat
open Go.RowKit Go.Sort Sx
set_option maxRecDepth 2000
theorem nanint_fnd (n:Int):FnD Tryz.prog 139 [.one (i64 n)] (.c (.one (bol false))):=by
 refine fn_okD (by kernel_rfl) ty_okD rfl Tryz.func139 rfl (fun _ _=>Tryz.call139 _ _) rfl ?_
 intro hw
 repeat' ((conv=>whnf);first|(with_reducible first|refine br_t ?_|refine br_f ?_|refine zd ?_|refine za ?_|refine zg ?_)|refine zp ?_|refine zq ?_|(with_reducible first|refine bc (fun h => ?_) (fun h => ?_)|refine zt ?_|refine zf ?_|refine br_i (fun h => ?_) (fun h => ?_))|refine zg ?_|refine zi ?_|refine zb ?_)
 all_goals conv=>whnf
 all_goals first|rfl|exact r_bool (by simp)
theorem cmpint_fnd (a b:Int):FnD Tryz.prog 107 [.one (i64 a),.one (i64 b)] (ret1 (cmpN a b)):=by
 refine fn_okD (by kernel_rfl) ty_okD rfl Tryz.func107 rfl (fun _ _=>Tryz.call107 _ _) rfl ?_
 intro hw
 repeat' ((conv=>whnf);first|(with_reducible first|refine br_t ?_|refine br_f ?_|refine zd ?_|refine za ?_|refine zg ?_|refine xi (nanint_fnd _) ?_)|refine zp ?_|refine zq ?_|(with_reducible first|refine bc (fun h => ?_) (fun h => ?_)|refine zt ?_|refine zf ?_|refine br_i (fun h => ?_) (fun h => ?_))|refine zg ?_|refine zi ?_|refine zb ?_)
 all_goals conv=>whnf
 all_goals
  refine r_int ?_
  unfold cmpN
  (repeat' split)<;>omega
theorem cmpint_fn (a b:Int):FnOK Tryz.prog 107 [.one (i64 a),.one (i64 b)] (ret1 (cmpN a b)):=(cmpint_fnd a b).ok
def orN (a b:Int):Int:=if a=0 then b else a
theorem cmpor_fnd (a b:Int):FnD Tryz.prog 147 [.one (.list 1 [[i64 a],[i64 b]])] (ret1 (orN a b)):=by
 refine fn_okD (by kernel_rfl) ty_okD rfl Tryz.func147 rfl (fun _ _=>Tryz.call147 _ _) rfl ?_
 intro hw
 repeat' ((conv=>whnf);first|(with_reducible first|refine br_t ?_|refine br_f ?_|refine zd ?_|refine za ?_|refine zg ?_)|refine zp ?_|refine zq ?_|(with_reducible first|refine bc (fun h => ?_) (fun h => ?_)|refine zt ?_|refine zf ?_|refine br_i (fun h => ?_) (fun h => ?_))|refine zg ?_|refine zi ?_|refine zb ?_)
 refine loop_I (by kernel_rfl) ty_okD (σ:=Nat) (fun i=>([(2,sV (.int .i64 0)),(3,sV (.int .i64 0)),(6,sD (.list 1 [[i64 a],[i64 b]])),(7,sV (.int .i64 2)),(8,sV (.int .i64 (i:Int)))],[]))
  (fun i=>i=0∨(i=1∧a=0)∨(i=2∧a=0∧b=0)) (fun i=>2-i) 0 (.inl rfl) ⟨⟨rfl,rfl,rfl,rfl,rfl,trivial⟩,trivial,rfl⟩ ?_
 intro i hi
 have hel0:([[i64 a],[i64 b]]:List (List D))[((0:Nat):Int).toNat]? = some [i64 a]:=rfl
 have hel1:([[i64 a],[i64 b]]:List (List D))[((1:Nat):Int).toNat]? = some [i64 b]:=rfl
 have q0:0≤((0:Nat):Int)∧((0:Nat):Int)<(([[i64 a],[i64 b]]:List (List D)).length:Int):=⟨by omega,by simp⟩
 have q1:0≤((1:Nat):Int)∧((1:Nat):Int)<(([[i64 a],[i64 b]]:List (List D)).length:Int):=⟨by omega,by simp⟩
 rcases hi with rfl|⟨rfl,h1⟩|⟨rfl,h1,h2⟩
 ·repeat' ((conv=>whnf);first|(with_reducible first|refine br_t ?_|refine br_f ?_|refine zd ?_|refine za ?_|refine zg ?_)|first|(refine (Exists.intro _ (And.intro (And.intro hel0 (Nat.le_of_ble_eq_true rfl)) ?_)))|(refine And.intro q0 ?_)|refine zp ?_|refine zq ?_|(with_reducible first|refine bc (fun h => ?_) (fun h => ?_)|refine zt ?_|refine zf ?_|refine br_i (fun h => ?_) (fun h => ?_))|refine zg ?_|refine zi ?_|refine zb ?_)
  all_goals conv=>whnf
  ·refine r_int ?_
   unfold orN;rw [if_neg (by assumption)]
  ·refine ⟨1,.inr (.inl ⟨rfl,by omega⟩),⟨⟨rfl,rfl,rfl,rfl,rfl,trivial⟩,trivial,rfl⟩,by show 2-1<2-0;decide⟩
 ·repeat' ((conv=>whnf);first|(with_reducible first|refine br_t ?_|refine br_f ?_|refine zd ?_|refine za ?_|refine zg ?_)|first|(refine (Exists.intro _ (And.intro (And.intro hel1 (Nat.le_of_ble_eq_true rfl)) ?_)))|(refine And.intro q1 ?_)|refine zp ?_|refine zq ?_|(with_reducible first|refine bc (fun h => ?_) (fun h => ?_)|refine zt ?_|refine zf ?_|refine br_i (fun h => ?_) (fun h => ?_))|refine zg ?_|refine zi ?_|refine zb ?_)
  all_goals conv=>whnf
  ·refine r_int ?_
   unfold orN;rw [if_pos h1]
  ·refine ⟨2,.inr (.inr ⟨rfl,h1,by omega⟩),⟨⟨rfl,rfl,rfl,rfl,rfl,trivial⟩,trivial,rfl⟩,by show 2-2<2-1;decide⟩
 ·repeat' ((conv=>whnf);first|(with_reducible first|refine br_t ?_|refine br_f ?_|refine zd ?_|refine za ?_|refine zg ?_)|refine zp ?_|refine zq ?_|(with_reducible first|refine bc (fun h => ?_) (fun h => ?_)|refine zt ?_|refine zf ?_|refine br_i (fun h => ?_) (fun h => ?_))|refine zg ?_|refine zi ?_|refine zb ?_)
  all_goals conv=>whnf
  refine r_int ?_
  unfold orN;rw [if_pos h1];exact h2.symm
def two02 (i a b j c d n m:Int):Int:=if cpt i a b=0∧cpt j c d=0∧chk n m=0 then (if i=j then 2 else 0) else 8
theorem two02_ok {i a b j c d n m:Int} (h:two02 i a b j c d n m=0):cpt i a b=0∧cpt j c d=0∧chk n m=0∧i≠j:=by
 unfold two02 at h
 split at h
 ·rename_i hc
  split at h
  ·cases h
  ·exact ⟨hc.1,hc.2.1,hc.2.2,by assumption⟩
 ·cases h
theorem ktwo_fnd (i a b j c d n m:Int):FnD Tryz.prog 143 [pt i a b,pt j c d,rat n m] (ret1 (two02 i a b j c d n m)):=by
 refine fn_okD (by kernel_rfl) ty_okD rfl Tryz.func143 rfl (fun _ _=>Tryz.call143 _ _) rfl ?_
 intro hw
 have H1:=kCheck_fnd i a b
 have H2:=kCheck_fnd j c d
 have H3:=check_fnd n m
 unfold two02
 rcases cpt_08 i a b with h1|h1<;>rcases cpt_08 j c d with h2|h2<;>rcases chk_08 n m with h3|h3
 all_goals
  rw [h1] at H1
  rw [h2] at H2
  rw [h3] at H3
  simp only [h1,h2,h3]
  repeat' ((conv=>whnf);first|(with_reducible first|refine br_t ?_|refine br_f ?_|refine zd ?_|refine za ?_|refine zg ?_|refine xi (H1) ?_|refine xi (H2) ?_|refine xi (H3) ?_)|refine zp ?_|refine zq ?_|(with_reducible first|refine bc (fun h => ?_) (fun h => ?_)|refine zt ?_|refine zf ?_|refine br_i (fun h => ?_) (fun h => ?_))|refine zg ?_|refine zi ?_|refine zb ?_)
  all_goals conv=>whnf
  all_goals
   refine r_int ?_
   first
   | rfl
   | (simp;done)
   | (simp;omega)
theorem ktwo_fn (i a b j c d n m:Int):FnOK Tryz.prog 143 [pt i a b,pt j c d,rat n m] (ret1 (two02 i a b j c d n m)):=(ktwo_fnd i a b j c d n m).ok
def leadN (i b j d s:Int):Int:=if s=0 then (if b=d then cmpN j i else cmpN b d) else if s<0 then -1 else 1
theorem prod_in3 {p k:Int} (h0 : -2097152≤p) (h1:p≤2097152) (k0 : -9223372036854775808≤k) (k1:k≤9223372036854775808) : -19342813113834066795298816≤p*k∧p*k≤19342813113834066795298816:=by
 have:(p*k).natAbs≤2097152*9223372036854775808:=by rw [Int.natAbs_mul];exact Nat.mul_le_mul (by omega) (by omega)
 omega
theorem kcompare_fnd (i a b j c d n m : Int) (h1 : cpt i a b = 0) (h2 : cpt j c d = 0) : FnD Tryz.prog 149 [pt i a b, pt j c d, rat n m] (ret1 (leadN i b j d ((a - c) * m + (b - d) * n))) := by
  refine fn_okD (by kernel_rfl) ty_okD rfl Tryz.func149 rfl (fun _ _ => Tryz.call149 _ _) rfl ?_
  intro hw
  simp only [WDCs, WDC, WDs, wd_i64] at hw
  have g1 := cpt_ok h1
  have g2 := cpt_ok h2
  have p1 := prod_in3 (p := a - c) (k := m) (by omega) (by omega) (by omega) (by omega)
  have p2 := prod_in3 (p := b - d) (k := n) (by omega) (by omega) (by omega) (by omega)
  have HS := sum_fnd (a - c) m (b - d) n (by omega)
  generalize hs : (a - c) * m + (b - d) * n = s at *
  have e1 : IntKind.i64.wrap (a - c) = a - c := IntWalk.i64_in _ (by omega)
  have e2 : IntKind.i64.wrap (b - d) = b - d := IntWalk.i64_in _ (by omega)
  rw [← e1, ← e2] at HS
  repeat' ((conv => whnf); first | (with_reducible first | refine br_t ?_ | refine br_f ?_ | refine zd ?_ | refine za ?_ | refine zg ?_ | refine xi (HS) ?_ | refine xi (cmpor_fnd _ _) ?_ | refine xi (cmpint_fnd _ _) ?_ | refine xi (cmpi_fnd _ _) ?_) | refine zp ?_ | refine zq ?_ | (with_reducible first | refine bc (fun h => ?_) (fun h => ?_) | refine zt ?_ | refine zf ?_ | refine br_i (fun h => ?_) (fun h => ?_) | refine xi (pv_bool fun _ => nev144 _ _ _ _ _ _ _) ?_) | refine zg ?_ | refine zi ?_ | refine zb ?_)
  all_goals conv => whnf
  all_goals
    refine r_int ?_
    clear HS hs p1 p2 e1 e2 hw h1 h2 g1 g2
    unfold leadN
    first
    | (rw [if_neg (by omega), if_pos (by omega)]; done)
    | (rw [if_neg (by omega), if_neg (by omega)]; done)
    | (rw [if_pos (by omega)]
       unfold orN cmpN
       (repeat' split) <;> omega)
theorem big_two (n:Nat):Two (n / 18446744073709551616) (n % 18446744073709551616) n:=⟨rfl,rfl⟩
abbrev bigC (x:Int):DC:=.agg [bol (decide (x<0)),u64 ((x.natAbs / 18446744073709551616:Nat):Int),u64 ((x.natAbs % 18446744073709551616:Nat):Int)]
theorem rProduct_fn (a b:Int):FnOK Tryz.prog 126 [.one (i64 a),.one (i64 b)] (.c (bigC (a*b))):=by
 refine fn_of_calls (fun _ _=>Tryz.call126 _ _) rfl rfl (fun h => ?_) (fun h w => ?_)
 ·obtain ⟨_,_,_,_⟩:=wdii h
  have:(a*b).natAbs≤9223372036854775808*9223372036854775808:=by rw [Int.natAbs_mul];exact Nat.mul_le_mul (by omega) (by omega)
  simp only [WDV,WDCs,WDC,WDs,wd_i64,wd_u64,wd_bol,and_true,true_and]
  omega
 ·obtain ⟨_,_,_,_⟩:=wdii h
  exact rProduct_any a b _ _ (by rw [← Int.natAbs_mul];exact big_two _) w (by omega) (by omega) (by omega) (by omega)
theorem rPlus_fn (x y:Int) (hx:x.natAbs<9223372036854775807*18446744073709551616) (hy:y.natAbs<9223372036854775807*18446744073709551616):FnOK Tryz.prog 133 [bigC x,bigC y] (.c (bigC (x+y))):=by
 refine fn_of_calls (fun _ _=>Tryz.call133 _ _) rfl rfl (fun h => ?_) (fun h w => ?_)
 ·simp only [WDV,WDCs,WDC,WDs,wd_i64,wd_u64,wd_bol,and_true,true_and]
  omega
 ·exact rPlus_any x y _ _ _ _ _ _ (big_two _) (big_two _) (big_two _) hx hy w
theorem rsign_fn (x:Int):FnOK Tryz.prog 127 [bigC x] (ret1 (cmpN x 0)):=by
 refine fn_of_calls (fun _ _=>Tryz.call127 _ _) rfl rfl (fun h => ?_) (fun h w => ?_)
 ·have:=cmpN_rng x 0
  simp only [WDV,WDCs,WDC,WDs,wd_i64,wd_u64,wd_bol,and_true,true_and]
  omega
 ·exact rSign_any x _ _ (big_two _) w
theorem kkFar_fn (i a b j c d n m:Int) (h1:cpt i a b=0) (h2:cpt j c d=0):FnOK Tryz.prog 157 [pt i a b,pt j c d,rat n m] (ret1 (cmpN ((a-c)*m+(b-d)*n) 0)):=by
 refine fn_ok (by kernel_rfl) ty_ok Tryz.func157 rfl (fun _ _=>Tryz.call157 _ _) rfl ?_
 intro hw
 simp only [WDCs,WDC,WDs,wd_i64] at hw
 have g1:=cpt_ok h1
 have g2:=cpt_ok h2
 have p1:=prod_in3 (p:=a-c) (k:=m) (by omega) (by omega) (by omega) (by omega)
 have p2:=prod_in3 (p:=b-d) (k:=n) (by omega) (by omega) (by omega) (by omega)
 have e1:IntKind.i64.wrap (a-c)=a-c:=IntWalk.i64_in _ (by omega)
 have e2:IntKind.i64.wrap (b-d)=b-d:=IntWalk.i64_in _ (by omega)
 have H1:=rProduct_fn (a-c) m
 have H2:=rProduct_fn (b-d) n
 generalize (a-c)*m=s at *
 generalize (b-d)*n=t at *
 have H3:=rPlus_fn s t (by omega) (by omega)
 have H4:=rsign_fn (s+t)
 rw [← e1] at H1
 rw [← e2] at H2
 repeat' ((conv=>whnf);first|(with_reducible first|refine br_t ?_|refine br_f ?_|refine za ?_|refine zg ?_|refine xi (H1) ?_|refine xi (H2) ?_|refine xi (H3) ?_|refine xi (H4) ?_)|refine zp ?_|refine zq ?_|(with_reducible first|refine bc (fun h => ?_) (fun h => ?_)|refine zt ?_|refine zf ?_|refine br_i (fun h => ?_) (fun h => ?_))|refine zg ?_|refine zi ?_|refine zb ?_)
 all_goals conv=>whnf
 all_goals rfl
theorem kkLeads_fn (i a b j c d n m:Int) (h1:cpt i a b=0) (h2:cpt j c d=0):FnOK Tryz.prog 130 [pt i a b,pt j c d,rat n m] (.c (.one (bol (decide (leadN i b j d ((a-c)*m+(b-d)*n) > 0))))):=by
 refine fn_ok (by kernel_rfl) ty_ok Tryz.func130 rfl (fun _ _=>Tryz.call130 _ _) rfl ?_
 intro hw
 simp only [WDCs,WDC,WDs,wd_i64] at hw
 have HF:=kkFar_fn i a b j c d n m h1 h2
 generalize (a-c)*m+(b-d)*n=s at *
 obtain ⟨f,hf⟩:∃ f,f=cmpN s 0:=⟨_,rfl⟩
 rw [← hf] at HF
 repeat' ((conv=>whnf);first|(with_reducible first|refine br_t ?_|refine br_f ?_|refine za ?_|refine zg ?_|refine xi (HF) ?_)|refine zp ?_|refine zq ?_|(with_reducible first|refine bc (fun h => ?_) (fun h => ?_)|refine zt ?_|refine zf ?_|refine br_i (fun h => ?_) (fun h => ?_))|refine zg ?_|refine zi ?_|refine zb ?_)
 all_goals conv=>whnf
 all_goals
  refine r_bool ?_
  clear HF hw h1 h2
  unfold cmpN at hf
  unfold leadN cmpN
  (repeat' split at hf)<;>(repeat' split)<;>first|rfl|omega|(rw [decide_eq_decide];omega)|(symm;rw [decide_eq_true_eq];omega)|(symm;rw [decide_eq_false_iff_not];omega)
def aheadV (i a b j c d n m:Int):Bool × Int:=if two02 i a b j c d n m=0 then (decide (leadN i b j d ((a-c)*m+(b-d)*n) > 0),0) else (false,two02 i a b j c d n m)
abbrev retBI (x:Bool × Int):DV:=.tup [.one (bol x.1),.one (i64 x.2)]
theorem kAhead_fnd (i a b j c d n m:Int):FnD Tryz.prog 122 [pt i a b,pt j c d,rat n m] (retBI (aheadV i a b j c d n m)):=by
 refine fn_okD (by kernel_rfl) ty_okD rfl Tryz.func122 rfl (fun _ _=>Tryz.call122 _ _) rfl ?_
 intro hw
 have HT:=ktwo_fnd i a b j c d n m
 unfold aheadV
 split
 ·rename_i h
  obtain ⟨h1,h2,h3,h4⟩:=two02_ok h
  rw [h] at HT
  have HC:=kcompare_fnd i a b j c d n m h1 h2
  simp only [ret1,retBI] at *
  generalize leadN i b j d ((a-c)*m+(b-d)*n)=l at *
  repeat' ((conv=>whnf);first|(with_reducible first|refine br_t ?_|refine br_f ?_|refine zd ?_|refine za ?_|refine zg ?_|refine xi (HT) ?_|refine xi (HC) ?_)|refine zp ?_|refine zq ?_|(with_reducible first|refine bc (fun h => ?_) (fun h => ?_)|refine zt ?_|refine zf ?_|refine br_i (fun h => ?_) (fun h => ?_))|refine zg ?_|refine zi ?_|refine zb ?_)
  all_goals conv=>whnf
  all_goals rfl
 ·rename_i h
  simp only [ret1,retBI] at *
  generalize two02 i a b j c d n m=e at *
  repeat' ((conv=>whnf);first|(with_reducible first|refine br_t ?_|refine br_f ?_|refine zd ?_|refine za ?_|refine zg ?_|refine xi (HT) ?_)|refine zp ?_|refine zq ?_|(with_reducible first|refine bc (fun h => ?_) (fun h => ?_)|refine zt ?_|refine zf ?_|refine br_i (fun h => ?_) (fun h => ?_))|refine zg ?_|refine zi ?_|refine zb ?_)
  all_goals conv=>whnf
  all_goals rfl
end Go.Proofs.YtddbmpbihpkabaaGreat

namespace Go.Proofs.YtddbmpbihpkabaaGreat
open Go.RowKit
theorem num_mkRat_le (n:Int) (d:Nat):(mkRat n d).num.natAbs≤n.natAbs:=by
 rw [Rat.num_mkRat]
 split
 ·simp
 ·rw [Int.natAbs_ediv_of_dvd]
  ·exact Nat.div_le_self _ _
  ·exact Int.ofNat_dvd_left.2 (Nat.gcd_dvd_right _ _)
theorem den_mkRat_le (n:Int) (d:Nat) (h:d≠0):(mkRat n d).den≤d:=by
 rw [Rat.den_mkRat,if_neg h];exact Nat.div_le_self _ _
theorem qv_add {n d m e:Int} (h:1≤d) (k:1≤e):qv n d+qv m e=qv (n*e+m*d) (d*e):=by
 unfold qv
 rw [Rat.mkRat_add_mkRat _ _ (by omega) (by omega),Int.toNat_mul (by omega) (by omega),Int.toNat_of_nonneg (by omega),Int.toNat_of_nonneg (by omega)]
theorem qv_mul {n d m e:Int} (h:1≤d) (k:1≤e):qv n d*qv m e=qv (n*m) (d*e):=by
 unfold qv
 rw [Rat.mkRat_mul_mkRat,Int.toNat_mul (by omega) (by omega)]
theorem qv_sub {n d m e:Int} (h:1≤d) (k:1≤e):qv n d-qv m e=qv (n*e-m*d) (d*e):=by
 rw [Rat.sub_eq_add_neg,← qv_neg,qv_add h k]
 congr 1
 rw [Int.neg_mul,Int.sub_eq_add_neg]
theorem qv_eq {n d m e:Int} (h:1≤d) (k:1≤e):qv n d=qv m e↔n*e=m*d:=by
 unfold qv
 rw [Rat.mkRat_eq_iff (by omega) (by omega),Int.toNat_of_nonneg (by omega),Int.toNat_of_nonneg (by omega)]
theorem outQ_sm {n d:Int} (h0:1≤d) (h1:d≤9223372036854775807) (h2 : -9223372036854775807≤n) (h3:n≤9223372036854775807) :
  ∃ m e:Int,outQ (qv n d)=(m,e,0)∧chk m e=0∧qv m e=qv n d∧1≤e∧e≤d∧m.natAbs≤n.natAbs:=by
 have a:=num_mkRat_le n d.toNat
 have b:=den_mkRat_le n d.toNat (by omega)
 have c:=(qv n d).den_pos
 refine ⟨(qv n d).num,(qv n d).den,?_,chk_rat _ ?_,qv_rat _,?_,?_,a⟩
 ·unfold outQ
  rw [if_pos]
  show (mkRat n d.toNat).num.natAbs≤_∧(mkRat n d.toNat).den≤_
  omega
 ·show (mkRat n d.toNat).num.natAbs≤_
  omega
 ·omega
 ·show ((mkRat n d.toNat).den:Int)≤d
  omega
theorem prod_in2 (p k a b:Int) (h0 : -a≤p) (h1:p≤a) (k0 : -b≤k) (k1:k≤b) : -(a*b)≤p*k∧p*k≤a*b:=by
 have:(p*k).natAbs≤a.natAbs*b.natAbs:=by rw [Int.natAbs_mul];exact Nat.mul_le_mul (by omega) (by omega)
 have e:a*b=((a.natAbs*b.natAbs:Nat):Int):=by rw [Int.natCast_mul,Int.natAbs_of_nonneg (by omega),Int.natAbs_of_nonneg (by omega)]
 omega
end Go.Proofs.YtddbmpbihpkabaaGreat

namespace Go.Proofs.YtddbmpbihpkabaaGreat
open Go.RowKit Go.Sort Sx
set_option maxRecDepth 2000
theorem makeV_neg (n d:Int) (hd:d≠0):makeV (-n) (-d)=makeV n d:=by
 unfold makeV
 rw [if_neg (by omega),if_neg hd,Int.natAbs_neg,Int.natAbs_neg]
 by_cases hn:n=0
 ·subst hn
  exact (by simpa using buildN_zero _ _ _)
 ·congr 1
  by_cases h1:n<0<;>by_cases h2:d<0
  all_goals
   first|rw [decide_eq_true h1]|rw [decide_eq_false h1]
   first|rw [decide_eq_true h2]|rw [decide_eq_false h2]
   first|rw [decide_eq_true (show -n<0 by omega)]|rw [decide_eq_false (show ¬ -n<0 by omega)]
   first|rw [decide_eq_true (show -d<0 by omega)]|rw [decide_eq_false (show ¬ -d<0 by omega)]
   rfl
theorem makeV_q (n d:Int) (hd:0<d):makeV n d=outQ (qv n d):=by
 unfold makeV
 rw [if_neg (by omega)]
 have e1:(qv n d).num=n / (Nat.gcd n.natAbs d.natAbs:Nat):=by
  unfold qv
  rw [Rat.num_mkRat,if_neg (by omega),show d.toNat=d.natAbs by omega,Nat.gcd_comm]
 have e2:(qv n d).den=d.natAbs / Nat.gcd n.natAbs d.natAbs:=by
  unfold qv
  rw [Rat.den_mkRat,if_neg (by omega),show d.toNat=d.natAbs by omega,Nat.gcd_comm]
 have hg:0<Nat.gcd n.natAbs d.natAbs:=Nat.gcd_pos_of_pos_right _ (by omega)
 have hdv:((Nat.gcd n.natAbs d.natAbs:Nat):Int) ∣ n:=by
  rw [← Int.dvd_natAbs,Int.ofNat_dvd];exact Nat.gcd_dvd_left _ _
 refine build_q _ _ _ _ e2.symm ?_ ?_
 ·rw [e1,Int.natAbs_ediv_of_dvd hdv];simp
 ·intro hne
  rw [e1] at hne ⊢
  have hG:(0:Int)<((Nat.gcd n.natAbs d.natAbs:Nat):Int):=by omega
  clear hg e1 e2
  generalize ((Nat.gcd n.natAbs d.natAbs:Nat):Int)=G at *
  obtain ⟨k,rfl⟩:=hdv
  rw [Int.mul_ediv_cancel_left _ (by omega)] at hne ⊢
  rw [decide_eq_false (show ¬ d<0 by omega)]
  rcases (show k<0∨0<k by omega) with hk|hk
  ·have:=Int.mul_neg_of_pos_of_neg hG hk
   rw [decide_eq_true hk,decide_eq_true this];rfl
  ·have:=Int.mul_pos hG hk
   rw [decide_eq_false (show ¬ k<0 by omega),decide_eq_false (show ¬ G*k<0 by omega)];rfl
theorem qv_neg2 (n d:Int) (h:d<0):makeV n d=outQ (qv (-n) (-d)):=by
 rw [← makeV_neg n d (by omega),makeV_q _ _ (by omega)]
theorem met_ok {x y:Int} (hy:y≠0) (x0 : -2097152≤x) (x1:x≤2097152) (y0 : -2097152≤y) (y1:y≤2097152) :
  ∃ n d,makeV x y=(n,d,0)∧chk n d=0∧1≤d∧d≤2097152 ∧ -2097152≤n∧n≤2097152∧n*y=x*d:=by
 rcases (show 0<y∨y<0 by omega) with h|h
 ·obtain ⟨n,d,e,c,q,d1,d2,n1⟩:=outQ_sm (n:=x) (d:=y) (by omega) (by omega) (by omega) (by omega)
  refine ⟨n,d,by rw [makeV_q _ _ h,e],c,by omega,by omega,by omega,by omega,?_⟩
  exact (qv_eq (by omega) (by omega)).1 q
 ·obtain ⟨n,d,e,c,q,d1,d2,n1⟩:=outQ_sm (n := -x) (d := -y) (by omega) (by omega) (by omega) (by omega)
  refine ⟨n,d,by rw [qv_neg2 _ _ h,e],c,by omega,by omega,by omega,by omega,?_⟩
  have:=(qv_eq (by omega) (by omega)).1 q
  rw [Int.mul_neg,Int.neg_mul] at this
  omega
theorem rmake_fn (n d:Int):FnOK Tryz.prog 180 [.one (i64 n),.one (i64 d)] (ret3 (makeV n d)):=by
 refine fn_of_calls (fun _ _=>Tryz.call180 _ _) rfl rfl (fun h => ?_) (fun h w => ?_)
 ·simp only [WDV,WDCs,WDC,WDs,wd_i64,and_true]
  have:=makeV_rng n d
  omega
 ·obtain ⟨_,_,_,_⟩:=wdii h
  exact rmakeV_any n d w (by omega) (by omega) (by omega) (by omega)
def meetV (i a b j c d:Int):Int × Int × Int:=if two02 i a b j c d 0 1=0 then (if b=d then (0,0,6) else makeV (a-c) (d-b)) else (0,0,two02 i a b j c d 0 1)
theorem kMeet_fn (i a b j c d:Int):FnOK Tryz.prog 115 [pt i a b,pt j c d] (ret3 (meetV i a b j c d)):=by
 refine fn_ok (by kernel_rfl) ty_ok Tryz.func115 rfl (fun _ _=>Tryz.call115 _ _) rfl ?_
 intro hw
 have HT:=ktwo_fn i a b j c d 0 1
 unfold meetV
 split
 ·rename_i h
  obtain ⟨h1,h2,h3,h4⟩:=two02_ok h
  have g1:=cpt_ok h1
  have g2:=cpt_ok h2
  rw [h] at HT
  have HM:=make_fn (a-c) (d-b)
  rw [show a-c=IntKind.i64.wrap (a-c) from (IntWalk.i64_in _ (by omega)).symm,show d-b=IntKind.i64.wrap (d-b) from (IntWalk.i64_in _ (by omega)).symm] at HM
  rw [show makeV (a-c) (d-b)=makeV (IntKind.i64.wrap (a-c)) (IntKind.i64.wrap (d-b)) by rw [IntWalk.i64_in (a-c) (by omega),IntWalk.i64_in (d-b) (by omega)]]
  simp only [ret1,ret3] at *
  generalize makeV (IntKind.i64.wrap (a-c)) (IntKind.i64.wrap (d-b))=mk at *
  repeat' ((conv=>whnf);first|(with_reducible first|refine br_t ?_|refine br_f ?_|refine za ?_|refine zg ?_|refine xi (HT) ?_|refine xi (HM) ?_)|refine zp ?_|refine zq ?_|(with_reducible first|refine bc (fun h => ?_) (fun h => ?_)|refine zt ?_|refine zf ?_|refine br_i (fun h => ?_) (fun h => ?_))|refine zg ?_|refine zi ?_|refine zb ?_)
  all_goals conv=>whnf
  all_goals
   (repeat' split)<;>first|rfl|(exfalso;omega)
 ·rename_i h
  simp only [ret1,ret3] at *
  generalize two02 i a b j c d 0 1=e at *
  repeat' ((conv=>whnf);first|(with_reducible first|refine br_t ?_|refine br_f ?_|refine za ?_|refine zg ?_|refine xi (HT) ?_)|refine zp ?_|refine zq ?_|(with_reducible first|refine bc (fun h => ?_) (fun h => ?_)|refine zt ?_|refine zf ?_|refine br_i (fun h => ?_) (fun h => ?_))|refine zg ?_|refine zi ?_|refine zb ?_)
  all_goals conv=>whnf
  all_goals rfl
theorem kkMet_fn (i a b j c d:Int) (h1:cpt i a b=0) (h2:cpt j c d=0):FnOK Tryz.prog 155 [pt i a b,pt j c d] (.c (rat (makeV (a-c) (d-b)).1 (makeV (a-c) (d-b)).2.1)):=by
 refine fn_ok (by kernel_rfl) ty_ok Tryz.func155 rfl (fun _ _=>Tryz.call155 _ _) rfl ?_
 intro hw
 have g1:=cpt_ok h1
 have g2:=cpt_ok h2
 have HM:=rmake_fn (a-c) (d-b)
 rw [show a-c=IntKind.i64.wrap (a-c) from (IntWalk.i64_in _ (by omega)).symm,show d-b=IntKind.i64.wrap (d-b) from (IntWalk.i64_in _ (by omega)).symm] at HM
 rw [show makeV (a-c) (d-b)=makeV (IntKind.i64.wrap (a-c)) (IntKind.i64.wrap (d-b)) by rw [IntWalk.i64_in (a-c) (by omega),IntWalk.i64_in (d-b) (by omega)]]
 simp only [ret1,ret3] at *
 generalize makeV (IntKind.i64.wrap (a-c)) (IntKind.i64.wrap (d-b))=mk at *
 repeat' ((conv=>whnf);first|(with_reducible first|refine br_t ?_|refine br_f ?_|refine za ?_|refine zg ?_|refine xi (HM) ?_)|refine zp ?_|refine zq ?_|(with_reducible first|refine bc (fun h => ?_) (fun h => ?_)|refine zt ?_|refine zf ?_|refine br_i (fun h => ?_) (fun h => ?_))|refine zg ?_|refine zi ?_|refine zb ?_)
 all_goals conv=>whnf
 all_goals rfl
theorem meet_e {i a b j c d:Int} (h1:cpt i a b=0) (h2:cpt j c d=0) (h:b≠d):∃ n m,makeV (a-c) (d-b)=(n,m,0)∧chk n m=0∧1≤m∧m≤2097152 ∧ -2097152≤n∧n≤2097152∧n*(d-b)=(a-c)*m:=by
 have g1:=cpt_ok h1
 have g2:=cpt_ok h2
 exact met_ok (by omega) (by omega) (by omega) (by omega) (by omega)
end Go.Proofs.YtddbmpbihpkabaaGreat
