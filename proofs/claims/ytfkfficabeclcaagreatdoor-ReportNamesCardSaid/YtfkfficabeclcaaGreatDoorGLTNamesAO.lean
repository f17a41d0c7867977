import Derived.Test.YtfkfficabeclcaaGreatDoorGLTNamesAN
import Derived.Test.YtfkfficabeclcaaGreatDoorGLTNamesAJ
import Derived.Test.YtfkfficabeclcaaGreatDoorGLTNamesAK
set_option linter.all false
namespace Go.Proofs.YtfkfficabeclcaaGreatDoor
open Go.RowKit Go.Sort Sx
theorem mul64i_fnd (x y:Int):FnD Tryz.prog 126 [.one (u64 x),.one (u64 y)] (.tup [.one (u64 (x*y / 18446744073709551616)),.one (u64 (x*y % 18446744073709551616))]):=by
 refine fnD_of_calls (fun _ _=>Tryz.call126 _ _) rfl rfl (fun h => ?_) (fun h w => ?_)
 all_goals
  simp only [WDCs,WDC,wd_u64] at h
  obtain ⟨X,rfl⟩:=Int.eq_ofNat_of_zero_le (show 0≤x by omega)
  obtain ⟨Y,rfl⟩:=Int.eq_ofNat_of_zero_le (show 0≤y by omega)
 ·simp only [WDV,WDCs,WDC,wd_u64,and_true]
  have h1:X*Y≤18446744073709551615*18446744073709551615:=Nat.mul_le_mul (by omega) (by omega)
  rw [← Int.natCast_mul]
  omega
 ·exact (Tryz.bits_Mul64 X Y (by omega) (by omega) w).mono fun e w' ⟨he,hw⟩=>⟨he,by rw [hw];exact Below.refl _ _,by rw [hw];exact Nat.le_refl _⟩
theorem add64_fnd (x y c:Int) (h0:0≤c) (h1:c≤1):FnD Tryz.prog 127 [.one (u64 x),.one (u64 y),.one (u64 c)] (.tup [.one (u64 ((x+y+c) % 18446744073709551616)),.one (u64 ((x+y+c) / 18446744073709551616))]):=by
 refine fnD_of_run rfl rfl (fun h => ?_) (fun h w => ?_)
 all_goals
  simp only [WDCs,WDC,wd_u64] at h
  obtain ⟨X,rfl⟩:=Int.eq_ofNat_of_zero_le (show 0≤x by omega)
  obtain ⟨Y,rfl⟩:=Int.eq_ofNat_of_zero_le (show 0≤y by omega)
  obtain ⟨C,rfl⟩:=Int.eq_ofNat_of_zero_le h0
 ·simp only [WDV,WDCs,WDC,wd_u64,and_true]
  omega
 ·exact run_Add64 X Y C (by omega) w
theorem sub64_fn (x y c:Int) (h0:0≤c) (h1:c≤1):FnOK Tryz.prog 73 [.one (u64 x),.one (u64 y),.one (u64 c)] (.tup [.one (u64 ((x+18446744073709551616-y-c) % 18446744073709551616)),.one (u64 (if x<y+c then 1 else 0))]):=by
 refine fn_of_run rfl rfl (fun h => ?_) (fun h w => ?_)
 all_goals
  simp only [WDCs,WDC,wd_u64] at h
  obtain ⟨X,rfl⟩:=Int.eq_ofNat_of_zero_le (show 0≤x by omega)
  obtain ⟨Y,rfl⟩:=Int.eq_ofNat_of_zero_le (show 0≤y by omega)
  obtain ⟨C,rfl⟩:=Int.eq_ofNat_of_zero_le h0
 ·simp only [WDV,WDCs,WDC,wd_u64,and_true]
  split<;>omega
 ·have:=run_Sub64 X Y C (by omega) w
  rw [show ((X:Int)+18446744073709551616-Y-C) % 18446744073709551616=(((X+18446744073709551616-Y-C) % 18446744073709551616:Nat):Int) by omega,
   show (if (X:Int)<Y+C then (1:Int) else 0)=((if X<Y+C then 1 else 0:Nat):Int) by split<;>split<;>omega]
  exact this
theorem wrap_ex (x:Int):∃ j,IntKind.i64.wrap x=x+j*18446744073709551616:=by
 rw [IntKind.wrap_i64]
 exact ⟨-((x+9223372036854775808) / 18446744073709551616),by have:=Int.emod_add_mul_ediv (x+9223372036854775808) 18446744073709551616;omega⟩
theorem rd_lem (W H L T u v x y hi lo high c L' H' a b j1 j2 k:Int) (hx:x=u+a*W) (hy:y=v+b*W) (hm:x*y=hi*W+lo) (hhigh:high=hi-a*v-b*u+j1*W) (hc:L+lo=c*W+L') (hH:H'=H+high+c+j2*W)
  (hk:H*W+L=T+k*(W*W)):H'*W+L'=T+u*v+(k+j1+j2+a*b)*(W*W):=by
 have e1:lo=x*y-hi*W:=by omega
 have e2:L'=L+lo-c*W:=by omega
 have e3:T=H*W+L-k*(W*W):=by omega
 clear hm hc hk
 subst e3 e2 e1 hH hhigh hx hy
 grind
def Acc (H L T:Int):Prop:=(-9223372036854775808≤H∧H≤9223372036854775807)∧(0≤L∧L<18446744073709551616)∧∃ k,H*18446744073709551616+L=T+k*(18446744073709551616*18446744073709551616)
theorem u64_of (u:Int) (h0 : -9223372036854775808≤u) (h1:u≤9223372036854775807):IntKind.u64.wrap u=u+(if u<0 then 1 else 0)*18446744073709551616:=by
 rw [IntKind.wrap_u64];split<;>omega
def HighOK (u v high:Int):Prop:=∃ j,high=IntKind.u64.wrap u*IntKind.u64.wrap v / 18446744073709551616-(if u<0 then 1 else 0)*v-(if v<0 then 1 else 0)*u+j*18446744073709551616
theorem rdA {H L T u v high:Int} (hu : -9223372036854775808≤u∧u≤9223372036854775807) (hv : -9223372036854775808≤v∧v≤9223372036854775807) (h:Acc H L T) (hh:HighOK u v high) :
  Acc (IntKind.i64.wrap (IntKind.i64.wrap (H+high)+IntKind.i64.wrap ((L+IntKind.u64.wrap u*IntKind.u64.wrap v % 18446744073709551616+0) / 18446744073709551616)))
   ((L+IntKind.u64.wrap u*IntKind.u64.wrap v % 18446744073709551616+0) % 18446744073709551616) (T+u*v):=by
 obtain ⟨h1,h2,k,hk⟩:=h
 obtain ⟨j1,hj1⟩:=hh
 obtain ⟨j2,hj2⟩:=wrap_ex (H+high)
 have ex:=u64_of u hu.1 hu.2
 have ey:=u64_of v hv.1 hv.2
 generalize IntKind.u64.wrap u=x at *
 generalize IntKind.u64.wrap v=y at *
 generalize (if u<0 then (1:Int) else 0)=a at *
 generalize (if v<0 then (1:Int) else 0)=b at *
 have d1:=Int.emod_add_mul_ediv (x*y) 18446744073709551616
 have d2:=Int.emod_nonneg (x*y) (show (18446744073709551616:Int)≠0 by decide)
 have d3:=Int.emod_lt_of_pos (x*y) (show (0:Int)<18446744073709551616 by decide)
 generalize hlo:x*y % 18446744073709551616=lo at *
 generalize hhi:x*y / 18446744073709551616=hi at *
 rw [Int.add_zero]
 have hc:(0:Int)≤(L+lo) / 18446744073709551616∧(L+lo) / 18446744073709551616≤1:=by omega
 have hc2:=Int.emod_add_mul_ediv (L+lo) 18446744073709551616
 have hc3:0≤(L+lo) % 18446744073709551616∧(L+lo) % 18446744073709551616<18446744073709551616:=by omega
 generalize (L+lo) / 18446744073709551616=c at *
 generalize (L+lo) % 18446744073709551616=L' at *
 have ec:IntKind.i64.wrap c=c:=IntWalk.i64_in c (by omega)
 rw [ec]
 obtain ⟨j3,hj3⟩:=wrap_ex (IntKind.i64.wrap (H+high)+c)
 have hr:=inK_wrap .i64 (IntKind.i64.wrap (H+high)+c)
 refine ⟨hr,hc3,k+j1+(j2+j3)+a*b,?_⟩
 refine rd_lem 18446744073709551616 H L T u v x y hi lo high c L' _ a b j1 (j2+j3) k ex ey (by omega) hj1 (by omega) ?_ hk
 rw [hj3,hj2,Int.add_mul];omega
theorem high0 {u v:Int} (h1:¬ u<0) (h2:¬ v<0):HighOK u v (IntKind.i64.wrap (IntKind.u64.wrap u*IntKind.u64.wrap v / 18446744073709551616)):=by
 obtain ⟨j,hj⟩:=wrap_ex (IntKind.u64.wrap u*IntKind.u64.wrap v / 18446744073709551616)
 exact ⟨j,by rw [if_neg h1,if_neg h2,hj];omega⟩
theorem high1 {u v:Int} (h1:u<0) (h2:¬ v<0):HighOK u v (IntKind.i64.wrap (IntKind.i64.wrap (IntKind.u64.wrap u*IntKind.u64.wrap v / 18446744073709551616)-v)):=by
 obtain ⟨j,hj⟩:=wrap_ex (IntKind.u64.wrap u*IntKind.u64.wrap v / 18446744073709551616)
 obtain ⟨j2,hj2⟩:=wrap_ex (IntKind.i64.wrap (IntKind.u64.wrap u*IntKind.u64.wrap v / 18446744073709551616)-v)
 exact ⟨j+j2,by rw [if_pos h1,if_neg h2,hj2,hj,Int.add_mul];omega⟩
theorem high2 {u v:Int} (h1:¬ u<0) (h2:v<0):HighOK u v (IntKind.i64.wrap (IntKind.i64.wrap (IntKind.u64.wrap u*IntKind.u64.wrap v / 18446744073709551616)-u)):=by
 obtain ⟨j,hj⟩:=wrap_ex (IntKind.u64.wrap u*IntKind.u64.wrap v / 18446744073709551616)
 obtain ⟨j2,hj2⟩:=wrap_ex (IntKind.i64.wrap (IntKind.u64.wrap u*IntKind.u64.wrap v / 18446744073709551616)-u)
 exact ⟨j+j2,by rw [if_neg h1,if_pos h2,hj2,hj,Int.add_mul];omega⟩
theorem high3 {u v:Int} (h1:u<0) (h2:v<0):HighOK u v (IntKind.i64.wrap (IntKind.i64.wrap (IntKind.i64.wrap (IntKind.u64.wrap u*IntKind.u64.wrap v / 18446744073709551616)-v)-u)):=by
 obtain ⟨j,hj⟩:=wrap_ex (IntKind.u64.wrap u*IntKind.u64.wrap v / 18446744073709551616)
 obtain ⟨j2,hj2⟩:=wrap_ex (IntKind.i64.wrap (IntKind.u64.wrap u*IntKind.u64.wrap v / 18446744073709551616)-v)
 obtain ⟨j3,hj3⟩:=wrap_ex (IntKind.i64.wrap (IntKind.i64.wrap (IntKind.u64.wrap u*IntKind.u64.wrap v / 18446744073709551616)-v)-u)
 exact ⟨j+j2+j3,by rw [if_pos h1,if_pos h2,hj3,hj2,hj,Int.add_mul,Int.add_mul];omega⟩
theorem sum_end {H L S:Int} (h:Acc H L (0+S)) (hS : -85070591730234615865843651857942052864≤S∧S≤85070591730234615865843651857942052864) :
  (DV.c (.agg [i64 H,u64 L]))=.c (.agg [i64 (S / 18446744073709551616),u64 (S % 18446744073709551616)]):=by
 obtain ⟨h1,h2,k,hk⟩:=h
 have:k=0:=by omega
 subst this
 have e1:S / 18446744073709551616=H:=by omega
 have e2:S % 18446744073709551616=L:=by omega
 rw [e1,e2]
theorem acc0:Acc 0 0 0:=⟨by decide,by decide,0,by decide⟩
set_option maxHeartbeats 4000000 in
theorem sum_fnd (a d b n:Int) (hS : -85070591730234615865843651857942052864≤a*d+b*n∧a*d+b*n≤85070591730234615865843651857942052864) :
  FnD Tryz.prog 72 [.agg [i64 a,i64 d,i64 b,i64 n]] (.c (.agg [i64 ((a*d+b*n) / 18446744073709551616),u64 ((a*d+b*n) % 18446744073709551616)])):=by
 refine fn_okD (by kernel_rfl) ty_okD rfl Tryz.func72 rfl (fun _ _=>Tryz.call72 _ _) rfl ?_
 intro hw
 simp only [WDCs,WDC,WDs,wd_i64] at hw
 have e1:IntKind.i64.wrap (((0:Nat):Int)+1)=((1:Nat):Int):=rfl
 have e2:IntKind.i64.wrap (((1:Nat):Int)+1)=((2:Nat):Int):=rfl
 repeat' ((conv=>whnf);first|(with_reducible first|refine br_t ?_|refine br_f ?_|refine zd ?_|refine za ?_|refine zg ?_|refine xi (mul64i_fnd _ _) ?_|refine xi (add64_fnd _ _ _ (by omega) (by omega)) ?_)|refine zp ?_|refine zq ?_|(with_reducible first|refine bc (fun h => ?_) (fun h => ?_)|refine zt ?_|refine zf ?_|refine br_i (fun h => ?_) (fun h => ?_))|refine zg ?_|refine zi ?_|refine zb ?_)
 refine loop_I (by kernel_rfl) ty_okD (σ:=Nat × Int × Int)
  (fun s=>([(1,.c (.at (.ptr 1 0))),(2,.c (.at (.ptr 2 0))),(3,.c (.at (.ptr 3 0))),(11,.c (.agg [.d (i64 a),.d (i64 d),.d (i64 b),.d (i64 n)])),(12,sV (.int .i64 (s.1:Int)))],
   [(3,.own [.d (i64 s.2.1),.d (u64 s.2.2)]),(2,.own [.d (i64 0),.d (u64 0)]),(1,.own [.d (i64 a),.d (i64 d),.d (i64 b),.d (i64 n)])]))
  (fun s=>(s.1=0∧Acc s.2.1 s.2.2 0)∨(s.1=1∧Acc s.2.1 s.2.2 (0+a*d))∨(s.1=2∧Acc s.2.1 s.2.2 (0+a*d+b*n))) (fun s=>2-s.1) (0,0,0) (.inl ⟨rfl,acc0⟩) ⟨⟨rfl,rfl,rfl,rfl,rfl,trivial⟩,⟨rfl,rfl,rfl,trivial⟩,rfl⟩ ?_
 rintro ⟨i,Hh,Ll⟩ hI
 simp only at hI
 rcases hI with ⟨rfl,hA⟩|⟨rfl,hA⟩|⟨rfl,hA⟩
 ·have hA':=Lib.hid hA
  clear hA
  repeat' ((conv=>whnf);first|(with_reducible first|refine br_t ?_|refine br_f ?_|refine zd ?_|refine za ?_|refine zg ?_|refine xi (mul64i_fnd _ _) ?_|refine xi (add64_fnd _ _ _ (by omega) (by omega)) ?_)|refine zp ?_|refine zq ?_|(with_reducible first|refine bc (fun h => ?_) (fun h => ?_)|refine zt ?_|refine zf ?_|refine br_i (fun h => ?_) (fun h => ?_))|refine zg ?_|refine zi ?_|refine zb ?_)
  all_goals conv=>whnf
  all_goals
   refine ⟨(1,_,_),?_,⟨⟨rfl,rfl,rfl,rfl,rfl,trivial⟩,⟨rfl,rfl,rfl,trivial⟩,rfl⟩,by show 2-1<2-0;decide⟩
   refine .inr (.inl ⟨rfl,?_⟩)
   refine rdA (H:=Hh) (L:=Ll) (u:=a) (v:=d) (by omega) (by omega) hA'.out ?_
   with_reducible first
   | (exact high0 (by assumption) (by assumption))
   | (exact high1 (by assumption) (by assumption))
   | (exact high2 (by assumption) (by assumption))
   | (exact high3 (by assumption) (by assumption))
 ·have hA':=Lib.hid hA
  clear hA
  repeat' ((conv=>whnf);first|(with_reducible first|refine br_t ?_|refine br_f ?_|refine zd ?_|refine za ?_|refine zg ?_|refine xi (mul64i_fnd _ _) ?_|refine xi (add64_fnd _ _ _ (by omega) (by omega)) ?_)|refine zp ?_|refine zq ?_|(with_reducible first|refine bc (fun h => ?_) (fun h => ?_)|refine zt ?_|refine zf ?_|refine br_i (fun h => ?_) (fun h => ?_))|refine zg ?_|refine zi ?_|refine zb ?_)
  all_goals conv=>whnf
  all_goals
   refine ⟨(2,_,_),?_,⟨⟨rfl,rfl,rfl,rfl,rfl,trivial⟩,⟨rfl,rfl,rfl,trivial⟩,rfl⟩,by show 2-2<2-1;decide⟩
   refine .inr (.inr ⟨rfl,?_⟩)
   refine rdA (H:=Hh) (L:=Ll) (u:=b) (v:=n) (by omega) (by omega) hA'.out ?_
   with_reducible first
   | (exact high0 (by assumption) (by assumption))
   | (exact high1 (by assumption) (by assumption))
   | (exact high2 (by assumption) (by assumption))
   | (exact high3 (by assumption) (by assumption))
 ·have hA':=Lib.hid hA
  clear hA
  repeat' ((conv=>whnf);first|(with_reducible first|refine br_t ?_|refine br_f ?_|refine zd ?_|refine za ?_|refine zg ?_|refine xi (mul64i_fnd _ _) ?_|refine xi (add64_fnd _ _ _ (by omega) (by omega)) ?_)|refine zp ?_|refine zq ?_|(with_reducible first|refine bc (fun h => ?_) (fun h => ?_)|refine zt ?_|refine zf ?_|refine br_i (fun h => ?_) (fun h => ?_))|refine zg ?_|refine zi ?_|refine zb ?_)
  all_goals conv=>whnf
  rw [Int.add_assoc] at hA'
  exact sum_end hA'.out hS
theorem sum_fn (a d b n:Int) (hS : -85070591730234615865843651857942052864≤a*d+b*n∧a*d+b*n≤85070591730234615865843651857942052864) :
  FnOK Tryz.prog 72 [.agg [i64 a,i64 d,i64 b,i64 n]] (.c (.agg [i64 ((a*d+b*n) / 18446744073709551616),u64 ((a*d+b*n) % 18446744073709551616)])):=(sum_fnd a d b n hS).ok
end Go.Proofs.YtfkfficabeclcaaGreatDoor

namespace Go.Proofs.YtfkfficabeclcaaGreatDoor
open Go.RowKit Go.Sort Sx
theorem nanint_fnd (n:Int):FnD Tryz.prog 92 [.one (i64 n)] (.c (.one (bol false))):=by
 refine fn_okD (by kernel_rfl) ty_okD rfl Tryz.func92 rfl (fun _ _=>Tryz.call92 _ _) rfl ?_
 intro hw
 repeat' ((conv=>whnf);first|(with_reducible first|refine br_t ?_|refine br_f ?_|refine zd ?_|refine za ?_|refine zg ?_)|refine zp ?_|refine zq ?_|(with_reducible first|refine bc (fun h => ?_) (fun h => ?_)|refine zt ?_|refine zf ?_|refine br_i (fun h => ?_) (fun h => ?_))|refine zg ?_|refine zi ?_|refine zb ?_)
 all_goals conv=>whnf
 all_goals first|rfl|exact r_bool (by simp)
theorem cmpint_fnd (a b:Int):FnD Tryz.prog 49 [.one (i64 a),.one (i64 b)] (ret1 (cmpN a b)):=by
 refine fn_okD (by kernel_rfl) ty_okD rfl Tryz.func49 rfl (fun _ _=>Tryz.call49 _ _) rfl ?_
 intro hw
 repeat' ((conv=>whnf);first|(with_reducible first|refine br_t ?_|refine br_f ?_|refine zd ?_|refine za ?_|refine zg ?_|refine xi (nanint_fnd _) ?_)|refine zp ?_|refine zq ?_|(with_reducible first|refine bc (fun h => ?_) (fun h => ?_)|refine zt ?_|refine zf ?_|refine br_i (fun h => ?_) (fun h => ?_))|refine zg ?_|refine zi ?_|refine zb ?_)
 all_goals conv=>whnf
 all_goals
  refine r_int ?_
  unfold cmpN
  (repeat' split)<;>omega
theorem cmpint_fn (a b:Int):FnOK Tryz.prog 49 [.one (i64 a),.one (i64 b)] (ret1 (cmpN a b)):=(cmpint_fnd a b).ok
def orN (a b:Int):Int:=if a=0 then b else a
theorem cmpor_fnd (a b:Int):FnD Tryz.prog 131 [.one (.list 1 [[i64 a],[i64 b]])] (ret1 (orN a b)):=by
 refine fn_okD (by kernel_rfl) ty_okD rfl Tryz.func131 rfl (fun _ _=>Tryz.call131 _ _) rfl ?_
 intro hw
 repeat' ((conv=>whnf);first|(with_reducible first|refine br_t ?_|refine br_f ?_|refine zd ?_|refine za ?_|refine zg ?_)|refine zp ?_|refine zq ?_|(with_reducible first|refine bc (fun h => ?_) (fun h => ?_)|refine zt ?_|refine zf ?_|refine br_i (fun h => ?_) (fun h => ?_))|refine zg ?_|refine zi ?_|refine zb ?_)
 refine loop_I (by kernel_rfl) ty_okD (σ:=Nat) (fun i=>([(2,sV (.int .i64 0)),(3,sV (.int .i64 0)),(6,sD (.list 1 [[i64 a],[i64 b]])),(7,sV (.int .i64 2)),(8,sV (.int .i64 (i:Int)))],[]))
  (fun i=>i=0∨(i=1∧a=0)∨(i=2∧a=0∧b=0)) (fun i=>2-i) 0 (.inl rfl) ⟨⟨rfl,rfl,rfl,rfl,rfl,trivial⟩,trivial,rfl⟩ ?_
 intro i hi
 have hel0:([[i64 a],[i64 b]]:List (List D))[((0:Nat):Int).toNat]? = some [i64 a]:=rfl
 have hel1:([[i64 a],[i64 b]]:List (List D))[((1:Nat):Int).toNat]? = some [i64 b]:=rfl
 have q0:0≤((0:Nat):Int)∧((0:Nat):Int)<(([[i64 a],[i64 b]]:List (List D)).length:Int):=⟨by omega,by simp⟩
 have q1:0≤((1:Nat):Int)∧((1:Nat):Int)<(([[i64 a],[i64 b]]:List (List D)).length:Int):=⟨by omega,by simp⟩
 rcases hi with rfl|⟨rfl,h1⟩|⟨rfl,h1,h2⟩
 ·repeat' ((conv=>whnf);first|(with_reducible first|refine br_t ?_|refine br_f ?_|refine zd ?_|refine za ?_|refine zg ?_)|first|(refine (Exists.intro _ (And.intro (And.intro hel0 (Nat.le_of_ble_eq_true rfl)) ?_)))|(refine And.intro q0 ?_)|refine zp ?_|refine zq ?_|(with_reducible first|refine bc (fun h => ?_) (fun h => ?_)|refine zt ?_|refine zf ?_|refine br_i (fun h => ?_) (fun h => ?_))|refine zg ?_|refine zi ?_|refine zb ?_)
  all_goals conv=>whnf
  ·refine r_int ?_
   unfold orN;rw [if_neg (by assumption)]
  ·refine ⟨1,.inr (.inl ⟨rfl,by omega⟩),⟨⟨rfl,rfl,rfl,rfl,rfl,trivial⟩,trivial,rfl⟩,by show 2-1<2-0;decide⟩
 ·repeat' ((conv=>whnf);first|(with_reducible first|refine br_t ?_|refine br_f ?_|refine zd ?_|refine za ?_|refine zg ?_)|first|(refine (Exists.intro _ (And.intro (And.intro hel1 (Nat.le_of_ble_eq_true rfl)) ?_)))|(refine And.intro q1 ?_)|refine zp ?_|refine zq ?_|(with_reducible first|refine bc (fun h => ?_) (fun h => ?_)|refine zt ?_|refine zf ?_|refine br_i (fun h => ?_) (fun h => ?_))|refine zg ?_|refine zi ?_|refine zb ?_)
  all_goals conv=>whnf
  ·refine r_int ?_
   unfold orN;rw [if_pos h1]
  ·refine ⟨2,.inr (.inr ⟨rfl,h1,by omega⟩),⟨⟨rfl,rfl,rfl,rfl,rfl,trivial⟩,trivial,rfl⟩,by show 2-2<2-1;decide⟩
 ·repeat' ((conv=>whnf);first|(with_reducible first|refine br_t ?_|refine br_f ?_|refine zd ?_|refine za ?_|refine zg ?_)|refine zp ?_|refine zq ?_|(with_reducible first|refine bc (fun h => ?_) (fun h => ?_)|refine zt ?_|refine zf ?_|refine br_i (fun h => ?_) (fun h => ?_))|refine zg ?_|refine zi ?_|refine zb ?_)
  all_goals conv=>whnf
  refine r_int ?_
  unfold orN;rw [if_pos h1];exact h2.symm
def two02 (i a b j c d n m:Int):Int:=if cpt i a b=0∧cpt j c d=0∧chk n m=0 then (if i=j then 2 else 0) else 8
theorem two02_ok {i a b j c d n m:Int} (h:two02 i a b j c d n m=0):cpt i a b=0∧cpt j c d=0∧chk n m=0∧i≠j:=by
 unfold two02 at h
 split at h
 ·rename_i hc
  split at h
  ·cases h
  ·exact ⟨hc.1,hc.2.1,hc.2.2,by assumption⟩
 ·cases h
theorem ktwo_fnd (i a b j c d n m:Int):FnD Tryz.prog 175 [pt i a b,pt j c d,rat n m] (ret1 (two02 i a b j c d n m)):=by
 refine fn_okD (by kernel_rfl) ty_okD rfl Tryz.func175 rfl (fun _ _=>Tryz.call175 _ _) rfl ?_
 intro hw
 have H1:=kCheck_fnd i a b
 have H2:=kCheck_fnd j c d
 have H3:=check_fnd n m
 unfold two02
 rcases cpt_08 i a b with h1|h1<;>rcases cpt_08 j c d with h2|h2<;>rcases chk_08 n m with h3|h3
 all_goals
  rw [h1] at H1
  rw [h2] at H2
  rw [h3] at H3
  simp only [h1,h2,h3]
  repeat' ((conv=>whnf);first|(with_reducible first|refine br_t ?_|refine br_f ?_|refine zd ?_|refine za ?_|refine zg ?_|refine xi (H1) ?_|refine xi (H2) ?_|refine xi (H3) ?_)|refine zp ?_|refine zq ?_|(with_reducible first|refine bc (fun h => ?_) (fun h => ?_)|refine zt ?_|refine zf ?_|refine br_i (fun h => ?_) (fun h => ?_))|refine zg ?_|refine zi ?_|refine zb ?_)
  all_goals conv=>whnf
  all_goals
   refine r_int ?_
   first
   | rfl
   | (simp;done)
   | (simp;omega)
theorem ktwo_fn (i a b j c d n m:Int):FnOK Tryz.prog 175 [pt i a b,pt j c d,rat n m] (ret1 (two02 i a b j c d n m)):=(ktwo_fnd i a b j c d n m).ok
def leadN (i b j d s:Int):Int:=if s=0 then (if b=d then cmpN j i else cmpN b d) else if s<0 then -1 else 1
theorem prod_in3 {p k:Int} (h0 : -2097152≤p) (h1:p≤2097152) (k0 : -9223372036854775808≤k) (k1:k≤9223372036854775808) : -19342813113834066795298816≤p*k∧p*k≤19342813113834066795298816:=by
 have:(p*k).natAbs≤2097152*9223372036854775808:=by rw [Int.natAbs_mul];exact Nat.mul_le_mul (by omega) (by omega)
 omega
theorem kcompare_fnd (i a b j c d n m : Int) (h1 : cpt i a b = 0) (h2 : cpt j c d = 0) : FnD Tryz.prog 176 [pt i a b, pt j c d, rat n m] (ret1 (leadN i b j d ((a - c) * m + (b - d) * n))) := by
  refine fn_okD (by kernel_rfl) ty_okD rfl Tryz.func176 rfl (fun _ _ => Tryz.call176 _ _) rfl ?_
  intro hw
  simp only [WDCs, WDC, WDs, wd_i64] at hw
  have g1 := cpt_ok h1
  have g2 := cpt_ok h2
  have p1 := prod_in3 (p := a - c) (k := m) (by omega) (by omega) (by omega) (by omega)
  have p2 := prod_in3 (p := b - d) (k := n) (by omega) (by omega) (by omega) (by omega)
  have HS := sum_fnd (a - c) m (b - d) n (by omega)
  generalize hs : (a - c) * m + (b - d) * n = s at *
  have e1 : IntKind.i64.wrap (a - c) = a - c := IntWalk.i64_in _ (by omega)
  have e2 : IntKind.i64.wrap (b - d) = b - d := IntWalk.i64_in _ (by omega)
  rw [← e1, ← e2] at HS
  repeat' ((conv => whnf); first | (with_reducible first | refine br_t ?_ | refine br_f ?_ | refine zd ?_ | refine za ?_ | refine zg ?_ | refine xi (HS) ?_ | refine xi (cmpor_fnd _ _) ?_ | refine xi (cmpint_fnd _ _) ?_ | refine xi (cmpi_fnd _ _) ?_) | refine zp ?_ | refine zq ?_ | (with_reducible first | refine bc (fun h => ?_) (fun h => ?_) | refine zt ?_ | refine zf ?_ | refine br_i (fun h => ?_) (fun h => ?_) | refine xi (pv_bool fun _ => nev123 _ _ _ _ _ _ _) ?_) | refine zg ?_ | refine zi ?_ | refine zb ?_)
  all_goals conv => whnf
  all_goals
    refine r_int ?_
    clear HS hs p1 p2 e1 e2 hw h1 h2 g1 g2
    unfold leadN
    first
    | (rw [if_neg (by omega), if_pos (by omega)]; done)
    | (rw [if_neg (by omega), if_neg (by omega)]; done)
    | (rw [if_pos (by omega)]
       unfold orN cmpN
       (repeat' split) <;> omega)
def aheadV (i a b j c d n m:Int):Bool × Int:=if two02 i a b j c d n m=0 then (decide (leadN i b j d ((a-c)*m+(b-d)*n) > 0),0) else (false,two02 i a b j c d n m)
abbrev retBI (x:Bool × Int):DV:=.tup [.one (bol x.1),.one (i64 x.2)]
theorem kAhead_fnd (i a b j c d n m:Int):FnD Tryz.prog 123 [pt i a b,pt j c d,rat n m] (retBI (aheadV i a b j c d n m)):=by
 refine fn_okD (by kernel_rfl) ty_okD rfl Tryz.func123 rfl (fun _ _=>Tryz.call123 _ _) rfl ?_
 intro hw
 have HT:=ktwo_fnd i a b j c d n m
 unfold aheadV
 split
 ·rename_i h
  obtain ⟨h1,h2,h3,h4⟩:=two02_ok h
  rw [h] at HT
  have HC:=kcompare_fnd i a b j c d n m h1 h2
  simp only [ret1,retBI] at *
  generalize leadN i b j d ((a-c)*m+(b-d)*n)=l at *
  repeat' ((conv=>whnf);first|(with_reducible first|refine br_t ?_|refine br_f ?_|refine zd ?_|refine za ?_|refine zg ?_|refine xi (HT) ?_|refine xi (HC) ?_)|refine zp ?_|refine zq ?_|(with_reducible first|refine bc (fun h => ?_) (fun h => ?_)|refine zt ?_|refine zf ?_|refine br_i (fun h => ?_) (fun h => ?_))|refine zg ?_|refine zi ?_|refine zb ?_)
  all_goals conv=>whnf
  all_goals rfl
 ·rename_i h
  simp only [ret1,retBI] at *
  generalize two02 i a b j c d n m=e at *
  repeat' ((conv=>whnf);first|(with_reducible first|refine br_t ?_|refine br_f ?_|refine zd ?_|refine za ?_|refine zg ?_|refine xi (HT) ?_)|refine zp ?_|refine zq ?_|(with_reducible first|refine bc (fun h => ?_) (fun h => ?_)|refine zt ?_|refine zf ?_|refine br_i (fun h => ?_) (fun h => ?_))|refine zg ?_|refine zi ?_|refine zb ?_)
  all_goals conv=>whnf
  all_goals rfl
end Go.Proofs.YtfkfficabeclcaaGreatDoor

namespace Go.Proofs.YtfkfficabeclcaaGreatDoor
open Go.RowKit
theorem num_mkRat_le (n:Int) (d:Nat):(mkRat n d).num.natAbs≤n.natAbs:=by
 rw [Rat.num_mkRat]
 split
 ·simp
 ·rw [Int.natAbs_ediv_of_dvd]
  ·exact Nat.div_le_self _ _
  ·exact Int.ofNat_dvd_left.2 (Nat.gcd_dvd_right _ _)
theorem den_mkRat_le (n:Int) (d:Nat) (h:d≠0):(mkRat n d).den≤d:=by
 rw [Rat.den_mkRat,if_neg h];exact Nat.div_le_self _ _
theorem qv_add {n d m e:Int} (h:1≤d) (k:1≤e):qv n d+qv m e=qv (n*e+m*d) (d*e):=by
 unfold qv
 rw [Rat.mkRat_add_mkRat _ _ (by omega) (by omega),Int.toNat_mul (by omega) (by omega),Int.toNat_of_nonneg (by omega),Int.toNat_of_nonneg (by omega)]
theorem qv_mul {n d m e:Int} (h:1≤d) (k:1≤e):qv n d*qv m e=qv (n*m) (d*e):=by
 unfold qv
 rw [Rat.mkRat_mul_mkRat,Int.toNat_mul (by omega) (by omega)]
theorem qv_sub {n d m e:Int} (h:1≤d) (k:1≤e):qv n d-qv m e=qv (n*e-m*d) (d*e):=by
 rw [Rat.sub_eq_add_neg,← qv_neg,qv_add h k]
 congr 1
 rw [Int.neg_mul,Int.sub_eq_add_neg]
theorem qv_eq {n d m e:Int} (h:1≤d) (k:1≤e):qv n d=qv m e↔n*e=m*d:=by
 unfold qv
 rw [Rat.mkRat_eq_iff (by omega) (by omega),Int.toNat_of_nonneg (by omega),Int.toNat_of_nonneg (by omega)]
theorem outQ_sm {n d:Int} (h0:1≤d) (h1:d≤9223372036854775807) (h2 : -9223372036854775807≤n) (h3:n≤9223372036854775807) :
  ∃ m e:Int,outQ (qv n d)=(m,e,0)∧chk m e=0∧qv m e=qv n d∧1≤e∧e≤d∧m.natAbs≤n.natAbs:=by
 have a:=num_mkRat_le n d.toNat
 have b:=den_mkRat_le n d.toNat (by omega)
 have c:=(qv n d).den_pos
 refine ⟨(qv n d).num,(qv n d).den,?_,chk_rat _ ?_,qv_rat _,?_,?_,a⟩
 ·unfold outQ
  rw [if_pos]
  show (mkRat n d.toNat).num.natAbs≤_∧(mkRat n d.toNat).den≤_
  omega
 ·show (mkRat n d.toNat).num.natAbs≤_
  omega
 ·omega
 ·show ((mkRat n d.toNat).den:Int)≤d
  omega
theorem prod_in2 (p k a b:Int) (h0 : -a≤p) (h1:p≤a) (k0 : -b≤k) (k1:k≤b) : -(a*b)≤p*k∧p*k≤a*b:=by
 have:(p*k).natAbs≤a.natAbs*b.natAbs:=by rw [Int.natAbs_mul];exact Nat.mul_le_mul (by omega) (by omega)
 have e:a*b=((a.natAbs*b.natAbs:Nat):Int):=by rw [Int.natCast_mul,Int.natAbs_of_nonneg (by omega),Int.natAbs_of_nonneg (by omega)]
 omega
end Go.Proofs.YtfkfficabeclcaaGreatDoor

namespace Go.Proofs.YtfkfficabeclcaaGreatDoor
open Go.RowKit Go.Sort Sx
theorem makeV_neg (n d:Int) (hd:d≠0):makeV (-n) (-d)=makeV n d:=by
 unfold makeV
 rw [if_neg (by omega),if_neg hd,Int.natAbs_neg,Int.natAbs_neg]
 by_cases hn:n=0
 ·subst hn
  exact (by simpa using buildN_zero _ _ _)
 ·congr 1
  by_cases h1:n<0<;>by_cases h2:d<0
  all_goals
   first|rw [decide_eq_true h1]|rw [decide_eq_false h1]
   first|rw [decide_eq_true h2]|rw [decide_eq_false h2]
   first|rw [decide_eq_true (show -n<0 by omega)]|rw [decide_eq_false (show ¬ -n<0 by omega)]
   first|rw [decide_eq_true (show -d<0 by omega)]|rw [decide_eq_false (show ¬ -d<0 by omega)]
   rfl
theorem makeV_q (n d:Int) (hd:0<d):makeV n d=outQ (qv n d):=by
 unfold makeV
 rw [if_neg (by omega)]
 have e1:(qv n d).num=n / (Nat.gcd n.natAbs d.natAbs:Nat):=by
  unfold qv
  rw [Rat.num_mkRat,if_neg (by omega),show d.toNat=d.natAbs by omega,Nat.gcd_comm]
 have e2:(qv n d).den=d.natAbs / Nat.gcd n.natAbs d.natAbs:=by
  unfold qv
  rw [Rat.den_mkRat,if_neg (by omega),show d.toNat=d.natAbs by omega,Nat.gcd_comm]
 have hg:0<Nat.gcd n.natAbs d.natAbs:=Nat.gcd_pos_of_pos_right _ (by omega)
 have hdv:((Nat.gcd n.natAbs d.natAbs:Nat):Int) ∣ n:=by
  rw [← Int.dvd_natAbs,Int.ofNat_dvd];exact Nat.gcd_dvd_left _ _
 refine build_q _ _ _ _ e2.symm ?_ ?_
 ·rw [e1,Int.natAbs_ediv_of_dvd hdv];simp
 ·intro hne
  rw [e1] at hne ⊢
  have hG:(0:Int)<((Nat.gcd n.natAbs d.natAbs:Nat):Int):=by omega
  clear hg e1 e2
  generalize ((Nat.gcd n.natAbs d.natAbs:Nat):Int)=G at *
  obtain ⟨k,rfl⟩:=hdv
  rw [Int.mul_ediv_cancel_left _ (by omega)] at hne ⊢
  rw [decide_eq_false (show ¬ d<0 by omega)]
  rcases (show k<0∨0<k by omega) with hk|hk
  ·have:=Int.mul_neg_of_pos_of_neg hG hk
   rw [decide_eq_true hk,decide_eq_true this];rfl
  ·have:=Int.mul_pos hG hk
   rw [decide_eq_false (show ¬ k<0 by omega),decide_eq_false (show ¬ G*k<0 by omega)];rfl
theorem qv_neg2 (n d:Int) (h:d<0):makeV n d=outQ (qv (-n) (-d)):=by
 rw [← makeV_neg n d (by omega),makeV_q _ _ (by omega)]
theorem met_ok {x y:Int} (hy:y≠0) (x0 : -2097152≤x) (x1:x≤2097152) (y0 : -2097152≤y) (y1:y≤2097152) :
  ∃ n d,makeV x y=(n,d,0)∧chk n d=0∧1≤d∧d≤2097152 ∧ -2097152≤n∧n≤2097152∧n*y=x*d:=by
 rcases (show 0<y∨y<0 by omega) with h|h
 ·obtain ⟨n,d,e,c,q,d1,d2,n1⟩:=outQ_sm (n:=x) (d:=y) (by omega) (by omega) (by omega) (by omega)
  refine ⟨n,d,by rw [makeV_q _ _ h,e],c,by omega,by omega,by omega,by omega,?_⟩
  exact (qv_eq (by omega) (by omega)).1 q
 ·obtain ⟨n,d,e,c,q,d1,d2,n1⟩:=outQ_sm (n := -x) (d := -y) (by omega) (by omega) (by omega) (by omega)
  refine ⟨n,d,by rw [qv_neg2 _ _ h,e],c,by omega,by omega,by omega,by omega,?_⟩
  have:=(qv_eq (by omega) (by omega)).1 q
  rw [Int.mul_neg,Int.neg_mul] at this
  omega
def meetV (i a b j c d:Int):Int × Int × Int:=if two02 i a b j c d 0 1=0 then (if b=d then (0,0,6) else makeV (a-c) (d-b)) else (0,0,two02 i a b j c d 0 1)
theorem kMeet_fn (i a b j c d:Int):FnOK Tryz.prog 203 [pt i a b,pt j c d] (ret3 (meetV i a b j c d)):=by
 refine fn_ok (by kernel_rfl) ty_ok Tryz.func203 rfl (fun _ _=>Tryz.call203 _ _) rfl ?_
 intro hw
 have HT:=ktwo_fn i a b j c d 0 1
 unfold meetV
 split
 ·rename_i h
  obtain ⟨h1,h2,h3,h4⟩:=two02_ok h
  have g1:=cpt_ok h1
  have g2:=cpt_ok h2
  rw [h] at HT
  have HM:=make_fn (a-c) (d-b)
  rw [show a-c=IntKind.i64.wrap (a-c) from (IntWalk.i64_in _ (by omega)).symm,show d-b=IntKind.i64.wrap (d-b) from (IntWalk.i64_in _ (by omega)).symm] at HM
  rw [show makeV (a-c) (d-b)=makeV (IntKind.i64.wrap (a-c)) (IntKind.i64.wrap (d-b)) by rw [IntWalk.i64_in (a-c) (by omega),IntWalk.i64_in (d-b) (by omega)]]
  simp only [ret1,ret3] at *
  generalize makeV (IntKind.i64.wrap (a-c)) (IntKind.i64.wrap (d-b))=mk at *
  repeat' ((conv=>whnf);first|(with_reducible first|refine br_t ?_|refine br_f ?_|refine za ?_|refine zg ?_|refine xi (HT) ?_|refine xi (HM) ?_)|refine zp ?_|refine zq ?_|(with_reducible first|refine bc (fun h => ?_) (fun h => ?_)|refine zt ?_|refine zf ?_|refine br_i (fun h => ?_) (fun h => ?_))|refine zg ?_|refine zi ?_|refine zb ?_)
  all_goals conv=>whnf
  all_goals
   (repeat' split)<;>first|rfl|(exfalso;omega)
 ·rename_i h
  simp only [ret1,ret3] at *
  generalize two02 i a b j c d 0 1=e at *
  repeat' ((conv=>whnf);first|(with_reducible first|refine br_t ?_|refine br_f ?_|refine za ?_|refine zg ?_|refine xi (HT) ?_)|refine zp ?_|refine zq ?_|(with_reducible first|refine bc (fun h => ?_) (fun h => ?_)|refine zt ?_|refine zf ?_|refine br_i (fun h => ?_) (fun h => ?_))|refine zg ?_|refine zi ?_|refine zb ?_)
  all_goals conv=>whnf
  all_goals rfl
theorem meet_e {i a b j c d:Int} (h1:cpt i a b=0) (h2:cpt j c d=0) (h:b≠d):∃ n m,makeV (a-c) (d-b)=(n,m,0)∧chk n m=0∧1≤m∧m≤2097152 ∧ -2097152≤n∧n≤2097152∧n*(d-b)=(a-c)*m:=by
 have g1:=cpt_ok h1
 have g2:=cpt_ok h2
 exact met_ok (by omega) (by omega) (by omega) (by omega) (by omega)
end Go.Proofs.YtfkfficabeclcaaGreatDoor

namespace Go.Proofs.YtfkfficabeclcaaGreatDoor
open Go.RowKit Go.Sort Sx
theorem div64_fn (hi lo y:Nat) (h:hi<y):FnOK Tryz.prog 75 [.one (u64 hi),.one (u64 lo),.one (u64 y)] (.tup [.one (u64 ((hi*18446744073709551616+lo) / y:Nat)),.one (u64 ((hi*18446744073709551616+lo) % y:Nat))]):=by
 refine fn_of_calls (fun _ _=>Tryz.call75 _ _) rfl rfl (fun h => ?_) (fun h w => ?_)
 all_goals simp only [WDCs,WDC,wd_u64] at h
 ·simp only [WDV,WDCs,WDC,wd_u64,and_true]
  have h1:(hi*18446744073709551616+lo) / y<18446744073709551616:=Nat.div_lt_of_lt_mul (by rw [Nat.mul_comm];have:(hi+1)*18446744073709551616≤y*18446744073709551616:=Nat.mul_le_mul_right _ (by omega);omega)
  have h2:(hi*18446744073709551616+lo) % y<y:=Nat.mod_lt _ (by omega)
  generalize (hi*18446744073709551616+lo) % y=r at *
  generalize (hi*18446744073709551616+lo) / y=q at *
  omega
 ·exact div64_any hi lo y w (by omega) (by omega) (by omega)
theorem mod_hi (m y:Nat) (hy:0<y):(m / 18446744073709551616 % y*18446744073709551616+m % 18446744073709551616) % y=m % y:=by
 conv=>rhs;rw [← Nat.div_add_mod m 18446744073709551616]
 rw [Nat.mul_comm 18446744073709551616,Nat.add_mod,Nat.mul_mod,Nat.mod_mod,← Nat.mul_mod,← Nat.add_mod]
theorem rem64_fn (m y:Nat) (hy:0<y):FnOK Tryz.prog 74 [.one (u64 (m / 18446744073709551616:Nat)),.one (u64 (m % 18446744073709551616:Nat)),.one (u64 y)] (.c (.one (u64 (m % y:Nat)))):=by
 refine fn_ok (by kernel_rfl) ty_ok Tryz.func74 rfl (fun _ _=>Tryz.call74 _ _) rfl ?_
 intro hw
 simp only [WDCs,WDC,wd_u64] at hw
 have HD:=div64_fn (m / 18446744073709551616 % y) (m % 18446744073709551616) y (Nat.mod_lt _ hy)
 rw [mod_hi m y hy] at HD
 have e:((m / 18446744073709551616 % y:Nat):Int)=((m / 18446744073709551616:Nat):Int).tmod (y:Int):=rfl
 rw [e] at HD
 generalize m / 18446744073709551616 % y*18446744073709551616+m % 18446744073709551616=z at *
 clear e
 repeat' ((conv=>whnf);first|(with_reducible first|refine br_t ?_|refine br_f ?_|refine za ?_|refine zg ?_|refine xi (HD) ?_)|refine zp ?_|refine zq ?_|(with_reducible first|refine bc (fun h => ?_) (fun h => ?_)|refine zt ?_|refine zf ?_|refine br_i (fun h => ?_) (fun h => ?_))|refine zg ?_|refine zi ?_|refine zb ?_)
 all_goals conv=>whnf
 all_goals rfl
theorem gcd_of_mod (M d:Nat):Nat.gcd d (M % d)=Nat.gcd M d:=by rw [Nat.gcd_comm M,Nat.gcd_rec d M,Nat.gcd_comm]
theorem over_q (S:Int) (d:Nat) (hd:0<d):outQ (qv S d)=buildN (decide (S<0)) (S.natAbs / Nat.gcd S.natAbs d) (d / Nat.gcd S.natAbs d):=by
 have h:=makeV_q S d (by omega)
 rw [← h]
 unfold makeV
 rw [if_neg (by omega),decide_eq_false (show ¬ (d:Int)<0 by omega),Int.natAbs_natCast]
 cases decide (S<0)<;>rfl
theorem div_parts (m g:Nat) (h:0<g):m / g=m / 18446744073709551616 / g*18446744073709551616+(m / 18446744073709551616 % g*18446744073709551616+m % 18446744073709551616) / g∧(m / 18446744073709551616 % g*18446744073709551616+m % 18446744073709551616) / g<18446744073709551616:=by
 constructor
 ·have e1:=Nat.div_add_mod m 18446744073709551616
  have e2:=Nat.div_add_mod (m / 18446744073709551616) g
  generalize m / 18446744073709551616=a at *
  generalize m % 18446744073709551616=b at *
  have:m=g*(a / g*18446744073709551616)+(a % g*18446744073709551616+b):=by
   rw [← Nat.mul_assoc]
   generalize g*(a / g)=x at *
   omega
  rw [this,Nat.mul_add_div h]
 ·refine Nat.div_lt_of_lt_mul ?_
  have h1:m / 18446744073709551616 % g<g:=Nat.mod_lt _ h
  have:(m / 18446744073709551616 % g+1)*18446744073709551616≤g*18446744073709551616:=Nat.mul_le_mul_right _ h1
  omega
theorem tup_eq {a b c a' b' c':Int} (h1:a=a') (h2:b=b') (h3:c=c'):DV.tup [.agg [i64 a,i64 b],.one (i64 c)]=.tup [.agg [i64 a',i64 b'],.one (i64 c')]:=by rw [h1,h2,h3]
def atV (i a b n m:Int):Int × Int × Int:=if cpt i a b=0∧chk n m=0 then outQ (qv (a*m+b*n) m) else (0,0,8)
theorem kAt_fn (i a b n m : Int) : FnOK Tryz.prog 35 [pt i a b, rat n m] (ret3 (atV i a b n m)) := by
  refine fn_ok (by kernel_rfl) ty_ok Tryz.func35 rfl (fun _ _ => Tryz.call35 _ _) rfl ?_
  intro hw
  have H1 := kCheck_fn i a b
  have H2 := check_fn n m
  unfold atV
  split
  · rename_i h
    obtain ⟨h1, h2⟩ := h
    rw [h1] at H1
    rw [h2] at H2
    simp only [ret1, ret3] at *
    have g1 := cpt_ok h1
    obtain ⟨g2, _, _⟩ := (chk_iff n m).1 h2
    simp only [WDCs, WDC, WDs, wd_i64] at hw
    have p1 := prod_in3 (p := a) (k := m) (by omega) (by omega) (by omega) (by omega)
    have p2 := prod_in3 (p := b) (k := n) (by omega) (by omega) (by omega) (by omega)
    have HS := sum_fn a m b n (by omega)
    generalize hs : a * m + b * n = S at *
    obtain ⟨d, rfl⟩ := Int.eq_ofNat_of_zero_le (show 0 ≤ m by omega)
    obtain ⟨M, hM⟩ : ∃ M, M = S.natAbs := ⟨_, rfl⟩
    obtain ⟨o, ho⟩ : ∃ o, o = outQ (qv S d) := ⟨_, rfl⟩
    rw [← ho]
    have HR := rem64_fn M d (by omega)
    have hS2 : -38685626227668133590597632 ≤ S ∧ S ≤ 38685626227668133590597632 := by omega
    have W2 : IntKind.u64.wrap (d : Int) = d := by rw [IntKind.wrap_u64]; omega
    obtain ⟨h, l, hh, hl, U, L, CC⟩ : ∃ h l : Int, h = (if S < 0 then IntKind.i64.wrap (IntKind.i64.wrap (0 - S / 18446744073709551616) - IntKind.i64.wrap (if 0 < S % 18446744073709551616 + 0 then 1 else 0)) else S / 18446744073709551616) ∧
        l = (if S < 0 then (0 + 18446744073709551616 - S % 18446744073709551616 - 0) % 18446744073709551616 else S % 18446744073709551616) ∧ IntKind.u64.wrap h = ((M / 18446744073709551616 : Nat) : Int) ∧ l = ((M % 18446744073709551616 : Nat) : Int) ∧ True := by
      refine ⟨_, _, rfl, rfl, ?_, ?_, trivial⟩
      · split
        · rw [IntWalk.i64_in (0 - S / 18446744073709551616) (by omega)]
          split
          · rw [IntWalk.i64_in 1 (by omega), IntWalk.i64_in _ (by omega), IntKind.wrap_u64]; omega
          · rw [IntWalk.i64_in 0 (by omega), IntWalk.i64_in _ (by omega), IntKind.wrap_u64]; omega
        · rw [IntKind.wrap_u64]; omega
      · split <;> omega
    rw [← U, ← L, ← W2] at HR
    have SB := sub64_fn 0 (S % 18446744073709551616) 0 (by omega) (by omega)
    clear p1 p2 hs
    rcases (show S < 0 ∨ 0 ≤ S by omega) with hneg | hneg
    all_goals
      first | rw [if_pos hneg] at hh hl | rw [if_neg (by omega)] at hh hl
      rw [hh, hl] at HR
      repeat' ((conv => whnf); first | (with_reducible first | refine br_t ?_ | refine br_f ?_ | refine za ?_ | refine zg ?_ | refine xi (H1) ?_ | refine xi (H2) ?_ | refine xi (HS) ?_ | refine xi (HR) ?_ | refine xi (SB) ?_) | refine zp ?_ | refine zq ?_ | (with_reducible first | refine bc (fun h => ?_) (fun h => ?_) | refine zt ?_ | refine zf ?_ | refine br_i (fun h => ?_) (fun h => ?_)) | refine zg ?_ | refine zi ?_ | refine zb ?_)
      refine loop_I (by kernel_rfl) ty_ok (σ := Nat × Nat)
        (fun s => ([(4, .c (.at (.ptr 4 0))), (5, sV (.int .i64 0)), (7, .c (.at (.ptr 7 0))), (8, sV (.bool (decide (S / 18446744073709551616 < 0)))), (11, sV (.int .u64 (IntKind.u64.wrap (d : Int)))), (12, sV (.int .u64 (s.2 : Int))), (13, sV (.int .u64 (s.1 : Int)))],
          [(7, .own [.d (i64 h), .d (u64 l)]), (4, .own [.d (i64 0), .d (i64 0)])]))
        (fun s => Nat.gcd s.1 s.2 = Nat.gcd d (M % d)) (fun s => s.2) (d, M % d) rfl ⟨⟨rfl, rfl, rfl, rfl, rfl, rfl, ?_, trivial⟩, ⟨by rw [hh, hl]; rfl, rfl, trivial⟩, rfl⟩ ?_
      · exact congrArg (fun x => some (sV (.int .u64 x))) W2
      rintro ⟨g, r⟩ hI
      simp only at hI
      rcases Nat.eq_zero_or_pos r with h0 | h0
      · subst h0
        rw [Nat.gcd_zero_right, gcd_of_mod] at hI
        have g0 : 0 < g := by rw [hI]; exact Nat.gcd_pos_of_pos_right _ (by omega)
        have g1 : g ≤ d := by rw [hI]; exact Nat.gcd_le_right _ (by omega)
        rw [over_q S d (by omega), ← hM, ← hI] at ho
        have HD := div64_fn (M / 18446744073709551616 % g) (M % 18446744073709551616) g (Nat.mod_lt _ g0)
        rw [← L, show ((M / 18446744073709551616 % g : Nat) : Int) = (IntKind.u64.wrap h).tmod (g : Int) by rw [U]; rfl] at HD
        have Q := div_parts M g g0
        have Q2 := Q.2
        have hz : IntKind.u64.wrap ((IntKind.u64.wrap h).tdiv (g : Int)) = ((M / 18446744073709551616 / g : Nat) : Int) := by
          have : M / 18446744073709551616 / g ≤ M / 18446744073709551616 := Nat.div_le_self _ _
          rw [U, ← Int.ofNat_tdiv, IntKind.wrap_u64]
          generalize M / 18446744073709551616 / g = z at *
          omega
        have hdg : IntKind.i64.wrap (IntKind.u64.wrap ((IntKind.u64.wrap (d : Int)).tdiv (g : Int))) = ((d / g : Nat) : Int) := by
          have : d / g ≤ d := Nat.div_le_self _ _
          rw [W2, ← Int.ofNat_tdiv, IntKind.wrap_u64]
          generalize d / g = k at *
          rw [IntWalk.i64_in _ (by omega)]
          omega
        have hdl : d / g ≤ 9223372036854775807 := by
          have : d / g ≤ d := Nat.div_le_self _ _
          omega
        have Q1 := Q.1
        clear Q
        generalize (M / 18446744073709551616 % g * 18446744073709551616 + M % 18446744073709551616) / g = q at *
        generalize (M / 18446744073709551616 % g * 18446744073709551616 + M % 18446744073709551616) % g = q' at *
        generalize M / 18446744073709551616 / g = z at *
        have e0 : (g : Int) ≠ 0 := by omega
        rw [Q1] at ho
        clear HS HR SB hh hl L CC hw H1 H2 Q1 hI h1 h2 g1
        dsimp only
        repeat' ((conv => whnf); first | (with_reducible first | refine br_t ?_ | refine br_f ?_ | refine za ?_ | refine zg ?_ | refine xi (HD) ?_) | (with_reducible refine And.intro e0 ?_) | refine zp ?_ | refine zq ?_ | (with_reducible first | refine bc (fun h => ?_) (fun h => ?_) | refine zt ?_ | refine zf ?_ | refine br_i (fun h => ?_) (fun h => ?_)) | refine zg ?_ | refine zi ?_ | refine zb ?_)
        all_goals conv => whnf
        all_goals
          unfold buildN at ho
          first
          | (rw [if_neg (by omega)] at ho
             subst ho
             rfl)
          | (rw [if_pos (by omega)] at ho
             subst ho
             refine tup_eq ?_ hdg rfl
             first
             | (rw [decide_eq_true hneg, if_pos rfl, IntWalk.i64_in q (by omega), IntWalk.i64_in _ (by omega)]; omega)
             | (rw [decide_eq_false (by omega), if_neg (by simp), IntWalk.i64_in q (by omega)]; omega))
      · have E1 : (r : Int) ≠ 0 := by omega
        dsimp only
        repeat' ((conv => whnf); first | (with_reducible first | refine br_t ?_ | refine br_f ?_ | refine za ?_ | refine zg ?_) | (with_reducible refine And.intro E1 ?_) | refine zp ?_ | refine zq ?_ | (with_reducible first | refine bc (fun h => ?_) (fun h => ?_) | refine zt ?_ | refine zf ?_ | refine br_i (fun h => ?_) (fun h => ?_)) | refine zg ?_ | refine zi ?_ | refine zb ?_)
        all_goals conv => whnf
        refine ⟨(r, g % r), ?_, ⟨⟨rfl, rfl, rfl, rfl, rfl, rfl, rfl, trivial⟩, ⟨rfl, rfl, trivial⟩, rfl⟩, Nat.mod_lt _ h0⟩
        show Nat.gcd r (g % r) = _
        rw [← hI, Nat.gcd_comm r, ← Nat.gcd_rec, Nat.gcd_comm]
  · rename_i h
    rcases cpt_08 i a b with h1 | h1 <;> rcases chk_08 n m with h2 | h2
    · exact absurd ⟨h1, h2⟩ h
    all_goals
      rw [h1] at H1
      rw [h2] at H2
      simp only [ret1, ret3] at *
      repeat' ((conv => whnf); first | (with_reducible first | refine br_t ?_ | refine br_f ?_ | refine za ?_ | refine zg ?_ | refine xi (H1) ?_ | refine xi (H2) ?_) | refine zp ?_ | refine zq ?_ | (with_reducible first | refine bc (fun h => ?_) (fun h => ?_) | refine zt ?_ | refine zf ?_ | refine br_i (fun h => ?_) (fun h => ?_)) | refine zg ?_ | refine zi ?_ | refine zb ?_)
      all_goals conv => whnf
      all_goals rfl
end Go.Proofs.YtfkfficabeclcaaGreatDoor

namespace Go.Proofs.YtfkfficabeclcaaGreatDoor
open Go.RowKit Go.Sort Sx
end Go.Proofs.YtfkfficabeclcaaGreatDoor

namespace Go.Proofs.YtfkfficabeclcaaGreatDoor
open Go.RowKit Go.Sort Sx
structure Pt where
 id:Int
 a:Int
 b:Int
 deriving DecidableEq,Inhabited
def Pt.c (p:Pt):List D:=[i64 p.id,i64 p.a,i64 p.b]
abbrev Pt.dc (p:Pt):DC:=pt p.id p.a p.b
abbrev pts (l:List Pt):D:=.list 3 (l.map Pt.c)
abbrev fld (l:List Pt):DC:=.agg [pts l]
def Pt.chk (p:Pt):Int:=cpt p.id p.a p.b
def incr:List Pt→Bool
 | p::q::l=>decide (p.id<q.id) && incr (q::l)
 | _=>true
def fchk (l:List Pt):Int:=if 64<l.length then 4 else if l.all (fun p=>p.chk == 0) then (if incr l then 0 else 32) else 8
theorem Pt.chk_08 (p:Pt):p.chk=0∨p.chk=8:=cpt_08 p.id p.a p.b
theorem pts_get {l:List Pt} {i:Nat} (h:i<l.length):(l.map Pt.c)[((i:Nat):Int).toNat]? = some [i64 l[i].id,i64 l[i].a,i64 l[i].b]:=by
 rw [Int.toNat_natCast,List.getElem?_map,List.getElem?_eq_getElem h];rfl
theorem pts_get' {l:List Pt} {i:Nat} {j:Int} (h:i<l.length) (e:j.toNat=i):(l.map Pt.c)[j.toNat]? = some [i64 l[i].id,i64 l[i].a,i64 l[i].b]:=by
 rw [e,List.getElem?_map,List.getElem?_eq_getElem h];rfl
theorem wd_pts {l:List Pt} (h:WD (pts l)):l.length≤9223372036854775807∧∀ p∈l,(-9223372036854775808≤p.id∧p.id≤9223372036854775807)∧(-9223372036854775808≤p.a∧p.a≤9223372036854775807)∧(-9223372036854775808≤p.b∧p.b≤9223372036854775807):=by
 obtain ⟨h1,_,h3⟩:=WD_list.1 h
 refine ⟨by simpa using h1,fun p hp => ?_⟩
 have h4:=h3 p.c (List.mem_map_of_mem hp)
 exact ⟨wd_i64.1 (h4 _ (by simp [Pt.c])),wd_i64.1 (h4 _ (by simp [Pt.c])),wd_i64.1 (h4 _ (by simp [Pt.c]))⟩
theorem all_take_succ {l:List Pt} {f:Pt→Bool} {i:Nat} (h:i<l.length):(l.take (i+1)).all f=((l.take i).all f && f l[i]):=by
 rw [List.take_succ_eq_append_getElem h,List.all_append];simp
theorem incr_iff:∀ {l:List Pt},incr l=true↔∀ i (h:i+1<l.length),l[i].id<l[i+1].id
 | []=>by simp [incr]
 | [p]=>by simp [incr]
 | p::q::l=>by
  rw [incr,Bool.and_eq_true,decide_eq_true_eq,incr_iff]
  constructor
  ·rintro ⟨h1,h2⟩ i h
   cases i with
   | zero=>exact h1
   | succ i=>exact h2 i (by simpa using h)
  ·exact fun h=>⟨h 0 (by simp),fun i hi=>h (i+1) (by simpa using hi)⟩
theorem fCheck_fn (l:List Pt):FnOK Tryz.prog 68 [fld l] (ret1 (fchk l)):=by
 refine fn_ok (by kernel_rfl) ty_ok Tryz.func68 rfl (fun _ _=>Tryz.call68 _ _) rfl ?_
 intro hw
 simp only [WDCs,WDC,WDs] at hw
 obtain ⟨w1,w2⟩:=wd_pts hw.1.1
 repeat' ((conv=>whnf);first|(with_reducible first|refine br_t ?_|refine br_f ?_|refine za ?_|refine zg ?_)|rw [List.length_map]|refine zp ?_|refine zq ?_|(with_reducible first|refine bc (fun h => ?_) (fun h => ?_)|refine zt ?_|refine zf ?_|refine br_i (fun h => ?_) (fun h => ?_))|refine zg ?_|refine zi ?_|refine zb ?_)
 ·conv=>whnf
  unfold fchk
  rw [if_pos (by omega)]
 unfold fchk
 rw [if_neg (by omega)]
 refine loop_J (by kernel_rfl) ty_ok (σ:=Nat) (fun i=>[(15,sV (.int .i64 i))]) (fun _=>[]) (fun i=>i≤l.length∧(l.take i).all (fun p=>p.chk == 0)=true) (fun i=>l.length-i) 0 ⟨by omega,by simp⟩ ?_ ?_
 ·(conv=>whnf);exact zent
 rintro i ⟨hi,hI⟩
 rcases Nat.lt_or_ge i l.length with hlt|hge
 ·have hel:=pts_get hlt
  have HC:=kCheck_fn l[i].id l[i].a l[i].b
  rcases Pt.chk_08 l[i] with hc|hc
  ·unfold Pt.chk at hc
   rw [hc] at HC
   repeat' ((conv=>whnf);first|(with_reducible first|refine br_t ?_|refine br_f ?_|refine za ?_|refine zg ?_|refine xi (HC) ?_)|rw [List.length_map]|refine zp ?_|refine zq ?_|(with_reducible first|refine bc (fun h => ?_) (fun h => ?_)|refine zt ?_|refine zf ?_|refine br_i (fun h => ?_) (fun h => ?_))|refine zg ?_|refine zi ?_|refine zb ?_)
   all_goals conv=>whnf
   refine ⟨i+1,⟨by omega,?_⟩,?_,by omega⟩
   ·rw [all_take_succ hlt,hI];simp [Pt.chk,hc]
   ·(conv=>whnf);exact zent
  ·have hn:l.all (fun p=>p.chk == 0)=false:=by
    rw [Bool.eq_false_iff]
    intro h
    have:=List.all_eq_true.1 h l[i] (List.getElem_mem hlt)
    rw [hc] at this;simp at this
   unfold Pt.chk at hc
   rw [hc] at HC
   repeat' ((conv=>whnf);first|(with_reducible first|refine br_t ?_|refine br_f ?_|refine za ?_|refine zg ?_|refine xi (HC) ?_)|rw [List.length_map]|refine zp ?_|refine zq ?_|(with_reducible first|refine bc (fun h => ?_) (fun h => ?_)|refine zt ?_|refine zf ?_|refine br_i (fun h => ?_) (fun h => ?_))|refine zg ?_|refine zi ?_|refine zb ?_)
   all_goals conv=>whnf
   rw [hn];rfl
 ·have hall:l.all (fun p=>p.chk == 0)=true:=by rw [List.take_of_length_le hge] at hI;exact hI
  rw [hall,if_pos rfl]
  repeat' ((conv=>whnf);first|(with_reducible first|refine br_t ?_|refine br_f ?_|refine za ?_|refine zg ?_)|rw [List.length_map]|refine zp ?_|refine zq ?_|(with_reducible first|refine bc (fun h => ?_) (fun h => ?_)|refine zt ?_|refine zf ?_|refine br_i (fun h => ?_) (fun h => ?_))|refine zg ?_|refine zi ?_|refine zb ?_)
  refine loop_J (by kernel_rfl) ty_ok (σ:=Nat) (fun i=>[(28,sV (.int .i64 i))]) (fun _=>[]) (fun i=>i≤l.length∧∀ j (h:j+1<l.length),j+1<i→l[j].id<l[j+1].id) (fun i=>l.length-i) 0 ⟨by omega,fun j _ h=>by omega⟩ ?_ ?_
  ·(conv=>whnf);exact zent
  rintro j ⟨hj,hJ⟩
  rcases Nat.lt_or_ge j l.length with hjlt|hjge
  ·have hel:=pts_get hjlt
   rcases Nat.eq_zero_or_pos j with h0|h0
   ·subst h0
    repeat' ((conv=>whnf);first|(with_reducible first|refine br_t ?_|refine br_f ?_|refine za ?_|refine zg ?_)|rw [List.length_map]|refine zp ?_|refine zq ?_|(with_reducible first|refine bc (fun h => ?_) (fun h => ?_)|refine zt ?_|refine zf ?_|refine br_i (fun h => ?_) (fun h => ?_))|refine zg ?_|refine zi ?_|refine zb ?_)
    all_goals conv=>whnf
    refine ⟨1,⟨by omega,fun k _ h=>by omega⟩,?_,by omega⟩
    (conv=>whnf);exact zent
   ·have hel2:=pts_get' (l:=l) (i:=j-1) (j:=IntKind.i64.wrap ((j:Int)-1)) (by omega) (by rw [IntWalk.i64_in _ (by omega)];omega)
    have hw1:IntKind.i64.wrap ((j:Int)-1)=((j-1:Nat):Int):=by rw [IntWalk.i64_in _ (by omega)];omega
    repeat' ((conv=>whnf);first|(with_reducible first|refine br_t ?_|refine br_f ?_|refine za ?_|refine zg ?_)|rw [List.length_map]|refine And.intro (by rw [hw1];omega) ?_|refine zp ?_|refine zq ?_|(with_reducible first|refine bc (fun h => ?_) (fun h => ?_)|refine zt ?_|refine zf ?_|refine br_i (fun h => ?_) (fun h => ?_))|refine zg ?_|refine zi ?_|refine zb ?_)
    all_goals conv=>whnf
    ·rename_i h
     have hf:incr l=false:=by
      rw [Bool.eq_false_iff,ne_eq,incr_iff]
      intro hh
      have:=hh (j-1) (by omega)
      rw [show l[j-1+1]'(by omega)=l[j] from getElem_congr rfl (by omega) _] at this
      omega
     rw [hf];rfl
    ·rename_i h
     refine ⟨j+1,⟨by omega,fun k hk hk2 => ?_⟩,?_,by omega⟩
     ·rcases Nat.lt_or_ge (k+1) j with h1|h1
      ·exact hJ k hk h1
      ·have e:k=j-1:=by omega
       subst e
       rw [show l[j-1+1]'hk=l[j] from getElem_congr rfl (by omega) _]
       omega
     ·(conv=>whnf);exact zent
  ·have ht:incr l=true:=incr_iff.2 fun k hk=>hJ k hk (by omega)
   repeat' ((conv=>whnf);first|(with_reducible first|refine br_t ?_|refine br_f ?_|refine za ?_|refine zg ?_)|rw [List.length_map]|refine zp ?_|refine zq ?_|(with_reducible first|refine bc (fun h => ?_) (fun h => ?_)|refine zt ?_|refine zf ?_|refine br_i (fun h => ?_) (fun h => ?_))|refine zg ?_|refine zi ?_|refine zb ?_)
   all_goals conv=>whnf
   all_goals
    rw [ht];rfl
end Go.Proofs.YtfkfficabeclcaaGreatDoor

namespace Go.Proofs.YtfkfficabeclcaaGreatDoor
open Go Go.RowKit Sx
end Go.Proofs.YtfkfficabeclcaaGreatDoor

namespace Go.Proofs.YtfkfficabeclcaaGreatDoor
open Go.RowKit Go.Sort Sx
abbrev ownL (k:Nat) (l:List (List D)):OwnR:=⟨.c (.one (.list k l)),0,0,k,l⟩
theorem ok_of_own {P:Program} {f k:Nat} {args:List DC} {l:List (List D)} (h:FnOwn P f args (ownL k l)):FnOK P f args (.c (.one (.list k l))):=by
 intro w M vs hM hvs
 obtain ⟨g,hg,hc⟩:=h w M vs hM hvs
 refine .inl ⟨g,hg,hc.mono ?_⟩
 rintro e w' ⟨v,m,rfl,hb,h1,h2,h3,h4,h5⟩
 refine ⟨v,rfl,?_,hb⟩
 have h4:AtR (fun _=>m) w' (fun b=>M b∨0<m.cap∧b=m.b) (.osl 0 0) v:=h4
 obtain ⟨_,_,_,k4⟩:=h4
 exact row_data h5 (k4 h2.symm) (fun b _ h=>.inl h) (fun h hm=>by have:=hM _ hm;have:=(h3 h).1;omega) (fun h=>(h3 h).2)
theorem clonePt_own (l:List (List D)) (hl:l.length≤1000000):FnOwn Tryz.prog 57 [.one (.list 3 l)] (ownL 3 l):=by
 cases l with
 | nil =>
  refine own_list ?_ ?_
  ·refine fn_own (by kernel_rfl) (ty_okK [7] [] [] []) Tryz.func57 rfl (fun _ _=>Tryz.call57 _ _) rfl ?_
   intro hw
   repeat' ((conv=>whnf);first|(with_reducible first|refine br_t ?_|refine br_f ?_|refine za ?_|refine zg ?_|refine zo ?_)|refine zp ?_|refine zq ?_|(with_reducible first|refine bc (fun h => ?_) (fun h => ?_)|refine zt ?_|refine zf ?_|refine br_i (fun h => ?_) (fun h => ?_))|refine zg ?_|refine zi ?_|refine zb ?_|refine zl ?_)
   all_goals conv=>whnf
   exact .inr ⟨100,_,_,rfl,rfl,rfl,rfl,rfl⟩
  ·refine fn_own (by kernel_rfl) (ty_okK [7] [] [] []) Tryz.func57 rfl (fun _ _=>Tryz.call57 _ _) rfl ?_
   intro hw
   repeat' ((conv=>whnf);first|(with_reducible first|refine br_t ?_|refine br_f ?_|refine za ?_|refine zg ?_|refine zo ?_)|refine zp ?_|refine zq ?_|(with_reducible first|refine bc (fun h => ?_) (fun h => ?_)|refine zt ?_|refine zf ?_|refine br_i (fun h => ?_) (fun h => ?_))|refine zg ?_|refine zi ?_|refine zb ?_|refine zl ?_)
   all_goals conv=>whnf
   exact .inl ⟨5,1,_,rfl,rfl,rfl⟩
 | cons x xs =>
  refine fn_own (by kernel_rfl) (ty_okK [7] [] [] []) Tryz.func57 rfl (fun _ _=>Tryz.call57 _ _) rfl ?_
  intro hw
  simp only [List.length_cons] at hl
  repeat' ((conv=>whnf);first|(with_reducible first|refine br_t ?_|refine br_f ?_|refine za ?_|refine zg ?_|refine zo ?_)|refine zp ?_|refine zq ?_|(with_reducible first|refine bc (fun h => ?_) (fun h => ?_)|refine zt ?_|refine zf ?_|refine br_i (fun h => ?_) (fun h => ?_))|refine zg ?_|refine zi ?_|refine zb ?_|refine zl ?_)
  all_goals conv=>whnf
  exact .inl ⟨5,1,_,rfl,rfl,rfl⟩
def pos:List Pt→Int→Nat
 | [],_=>0
 | p::l,id=>if p.id<id then pos l id+1 else 0
def has (l:List Pt) (id:Int):Bool:=l.any fun p=>p.id == id
theorem incr_lt {l:List Pt} (h:incr l=true):∀ (j i:Nat) (hj:j<l.length) (hij:i<j),l[i].id<l[j].id:=by
 intro j
 induction j with
 | zero=>intro i _ h;omega
 | succ j ih =>
  intro i hj hij
  have h1:=incr_iff.1 h j hj
  rcases Nat.lt_or_ge i j with h2|h2
  ·have:=ih i (by omega) h2;omega
  ·have:i=j:=by omega
   subst this;exact h1
theorem incr_tail {p:Pt} {l:List Pt} (h:incr (p::l)=true):incr l=true:=by
 cases l with
 | nil=>rfl
 | cons q l=>rw [incr,Bool.and_eq_true] at h;exact h.2
theorem pos_le:∀ (l:List Pt) (id:Int),pos l id≤l.length
 | [],_=>Nat.le_refl _
 | p::l,id=>by rw [pos];split<;>simp [pos_le l id]
theorem pos_eq:∀ {l:List Pt} {id:Int} {i:Nat},i≤l.length→(∀ k (h:k<l.length),k<i→l[k].id<id)→(∀ k (h:k<l.length),i≤k→id≤l[k].id)→pos l id=i
 | [],id,i,hi,_,_=>by simp at hi;simp [pos,hi]
 | p::l,id,0,hi,h1,h2=>by
  have:=h2 0 (by simp) (Nat.le_refl _)
  simp at this
  rw [pos,if_neg (by omega)]
 | p::l,id,i+1,hi,h1,h2=>by
  have:=h1 0 (by simp) (by omega)
  simp at this
  rw [pos,if_pos this,pos_eq (by simpa using hi) (fun k h hk=>h1 (k+1) (by simpa using h) (by omega)) (fun k h hk=>h2 (k+1) (by simpa using h) (by omega))]
theorem pos_spec:∀ {l:List Pt} {id:Int},incr l=true→(∀ k (h:k<l.length),k<pos l id→l[k].id<id)∧∀ k (h:k<l.length),pos l id≤k→id≤l[k].id
 | [],id,_=>⟨fun k h=>by simp at h,fun k h=>by simp at h⟩
 | p::l,id,hs=>by
  rw [pos]
  split
  ·rename_i hp
   obtain ⟨h1,h2⟩:=pos_spec (id:=id) (incr_tail hs)
   refine ⟨fun k h hk => ?_,fun k h hk => ?_⟩
   ·cases k with
    | zero=>exact hp
    | succ k=>simpa using h1 k (by simpa using h) (by omega)
   ·cases k with
    | zero=>omega
    | succ k=>simpa using h2 k (by simpa using h) (by omega)
  ·rename_i hp
   refine ⟨fun k h hk=>by omega,fun k h hk => ?_⟩
   cases k with
   | zero=>simp;omega
   | succ k =>
    have:=incr_lt hs (k+1) 0 h (by omega)
    simp at this ⊢;omega
theorem has_pos {l:List Pt} {id:Int} (hs:incr l=true):has l id=true↔∃ h:pos l id<l.length,l[pos l id].id=id:=by
 unfold has
 rw [List.any_eq_true]
 obtain ⟨h1,h2⟩:=pos_spec (id:=id) hs
 constructor
 ·rintro ⟨p,hp,he⟩
  obtain ⟨k,hk,rfl⟩:=List.getElem_of_mem hp
  have he:l[k].id=id:=by simpa using he
  have hle:pos l id≤k:=by
   rcases Nat.lt_or_ge k (pos l id) with h|h
   ·have:=h1 k hk h;omega
   ·exact h
  have hlt:pos l id<l.length:=by omega
  refine ⟨hlt,?_⟩
  have:=h2 (pos l id) hlt (Nat.le_refl _)
  rcases Nat.eq_or_lt_of_le hle with h|h
  ·rw [getElem_congr rfl h];exact he
  ·have:=incr_lt hs k (pos l id) hk h;omega
 ·rintro ⟨h,he⟩
  exact ⟨_,List.getElem_mem h,by simpa using he⟩
theorem mid_eq (i j:Nat) (h:i+j≤9223372036854775807):IntKind.i64.wrap ((IntKind.u64.wrap (IntKind.i64.wrap ((i:Int)+(j:Int)))).fdiv (2 ^ (min (Int.toNat 1) (IntKind.bits .u64))))=(((i+j) / 2:Nat):Int):=by
 have e1:(2:Int) ^ (min (Int.toNat 1) (IntKind.bits .u64))=2:=rfl
 have e2:IntKind.u64.wrap (((i+j:Nat):Int))=((i+j:Nat):Int):=by rw [IntKind.wrap_u64];omega
 have e3:IntKind.i64.wrap ((i:Int)+(j:Int))=((i+j:Nat):Int):=by rw [IntWalk.i64_in _ (by omega)];omega
 rw [e3,e2,e1,Int.fdiv_eq_ediv_of_nonneg _ (by omega)]
 have e4:((i+j:Nat):Int) / 2=(((i+j) / 2:Nat):Int):=by omega
 rw [e4,IntWalk.i64_in _ (by omega)]
theorem ffind1_fn (p:Pt) (id:Int):FnOK Tryz.prog 178 [p.dc,.one (i64 id)] (ret1 (cmpN p.id id)):=by
 refine fn_ok (by kernel_rfl) ty_ok Tryz.func178 rfl (fun _ _=>Tryz.call178 _ _) rfl ?_
 intro hw
 repeat' ((conv=>whnf);first|(with_reducible first|refine br_t ?_|refine br_f ?_|refine za ?_|refine zg ?_|refine xi (cmpint_fn _ _) ?_)|refine zp ?_|refine zq ?_|(with_reducible first|refine bc (fun h => ?_) (fun h => ?_)|refine zt ?_|refine zf ?_|refine br_i (fun h => ?_) (fun h => ?_))|refine zg ?_|refine zi ?_|refine zb ?_)
 all_goals conv=>whnf
 all_goals rfl
theorem bsPt_fn (l:List Pt) (id:Int) (hs:incr l=true) (hl:l.length≤1000000):FnOK Tryz.prog 177 [.one (pts l),.one (i64 id),.one (.clo 178 [])] (.tup [.one (i64 (pos l id:Nat)),.one (bol (has l id))]):=by
 refine fn_ok (by kernel_rfl) ty_ok Tryz.func177 rfl (fun _ _=>Tryz.call177 _ _) rfl ?_
 intro hw
 repeat' ((conv=>whnf);first|(with_reducible first|refine br_t ?_|refine br_f ?_|refine za ?_|refine zg ?_)|rw [List.length_map]|refine zp ?_|refine zq ?_|(with_reducible first|refine bc (fun h => ?_) (fun h => ?_)|refine zt ?_|refine zf ?_|refine br_i (fun h => ?_) (fun h => ?_))|refine zg ?_|refine zi ?_|refine zb ?_)
 refine loop_J (by kernel_rfl) ty_ok (σ:=Nat × Nat) (fun s=>[(9,sV (.int .i64 s.1)),(10,sV (.int .i64 s.2))]) (fun _=>[])
  (fun s=>s.1≤s.2∧s.2≤l.length∧(∀ k (h:k<l.length),k<s.1→l[k].id<id)∧∀ k (h:k<l.length),s.2≤k→id≤l[k].id) (fun s=>s.2-s.1) (0,l.length) ⟨by omega,by omega,fun k h hk=>absurd hk (Nat.not_lt_zero _),fun k h hk=>absurd h (by show ¬ k<l.length;exact Nat.not_lt.2 hk)⟩ ?_ ?_
 ·(conv=>whnf);exact zent
 rintro ⟨i,j⟩ ⟨h1,h2,h3,h4⟩
 simp only at h1 h2 h3 h4
 rcases Nat.lt_or_ge i j with hlt|hge
 ·have hm:(i+j) / 2<l.length:=by omega
  have hmid:=mid_eq i j (by omega)
  have hel:=pts_get hm
  have HC:=ffind1_fn l[(i+j) / 2] id
  rcases (show l[(i+j) / 2].id<id∨id≤l[(i+j) / 2].id by omega) with hc|hc
  ·have e:cmpN l[(i+j) / 2].id id = -1:=by unfold cmpN;rw [if_pos hc]
   rw [e] at HC
   repeat' ((conv=>whnf);first|(with_reducible first|refine br_t ?_|refine br_f ?_|refine za ?_|refine zg ?_)|rw [List.length_map]|rw [hmid]|refine zp ?_|refine zq ?_|(with_reducible first|refine bc (fun h => ?_) (fun h => ?_)|refine zt ?_|refine zf ?_|refine br_i (fun h => ?_) (fun h => ?_))|refine zg ?_|refine zi ?_|refine zb ?_)
   all_goals conv=>whnf
   refine ⟨((i+j) / 2+1,j),⟨by show _≤_;omega,h2,fun k h hk => ?_,h4⟩,?_,by show _-_<_-_;omega⟩
   ·rcases Nat.lt_or_ge k ((i+j) / 2) with h5|h5
    ·have:=incr_lt hs _ _ hm h5;omega
    ·have:k=(i+j) / 2:=by show k=_;simp only at hk;omega
     subst this;exact hc
   ·(conv=>whnf);exact zent
  ·have e:0≤cmpN l[(i+j) / 2].id id:=by unfold cmpN;split<;>(try split)<;>omega
   generalize cmpN l[(i+j) / 2].id id=c at HC e
   repeat' ((conv=>whnf);first|(with_reducible first|refine br_t ?_|refine br_f ?_|refine za ?_|refine zg ?_)|rw [List.length_map]|rw [hmid]|refine zp ?_|refine zq ?_|(with_reducible first|refine bc (fun h => ?_) (fun h => ?_)|refine zt ?_|refine zf ?_|refine br_i (fun h => ?_) (fun h => ?_))|refine zg ?_|refine zi ?_|refine zb ?_)
   all_goals conv=>whnf
   refine ⟨(i,(i+j) / 2),⟨by show _≤_;omega,by show _≤_;omega,h3,fun k h hk => ?_⟩,?_,by show _-_<_-_;omega⟩
   ·rcases Nat.lt_or_ge ((i+j) / 2) k with h5|h5
    ·have:=incr_lt hs k _ h h5;omega
    ·have:k=(i+j) / 2:=by simp only at hk;omega
     subst this;exact hc
   ·(conv=>whnf);exact zent
 ·have e:i=j:=by omega
  subst e
  have hp:=pos_eq (id:=id) h2 h3 h4
  rw [hp]
  have hh:=has_pos (id:=id) hs
  rcases Nat.lt_or_ge i l.length with hlt|hge2
  ·have hel:=pts_get hlt
   have HC:=ffind1_fn l[i] id
   have e2:has l id=decide (cmpN l[i].id id=0):=by
    rw [Bool.eq_iff_iff,hh,decide_eq_true_eq]
    have e3:cmpN l[i].id id=0↔l[i].id=id:=by
     unfold cmpN
     split
     ·exact ⟨fun h=>by omega,fun h=>by omega⟩
     ·split
      ·exact ⟨fun h=>by omega,fun h=>by omega⟩
      ·exact ⟨fun h=>by omega,fun h=>rfl⟩
    rw [e3]
    constructor
    ·rintro ⟨h,e⟩;exact (congrArg Pt.id (getElem_congr rfl hp.symm _)).trans e
    ·intro e;exact ⟨by omega,(congrArg Pt.id (getElem_congr rfl hp _)).trans e⟩
   rw [e2]
   generalize cmpN l[i].id id=c at HC
   by_cases hc:c=0
   all_goals
    repeat' ((conv=>whnf);first|(with_reducible first|refine br_t ?_|refine br_f ?_|refine za ?_|refine zg ?_)|rw [List.length_map]|refine zp ?_|refine zq ?_|(with_reducible first|refine bc (fun h => ?_) (fun h => ?_)|refine zt ?_|refine zf ?_|refine br_i (fun h => ?_) (fun h => ?_))|refine zg ?_|refine zi ?_|refine zb ?_)
    all_goals conv=>whnf
    all_goals simp [hc]
  ·have e2:has l id=false:=by
    rw [Bool.eq_false_iff,ne_eq,hh]
    rintro ⟨h,_⟩;omega
   rw [e2]
   repeat' ((conv=>whnf);first|(with_reducible first|refine br_t ?_|refine br_f ?_|refine za ?_|refine zg ?_)|rw [List.length_map]|refine zp ?_|refine zq ?_|(with_reducible first|refine bc (fun h => ?_) (fun h => ?_)|refine zt ?_|refine zf ?_|refine br_i (fun h => ?_) (fun h => ?_))|refine zg ?_|refine zi ?_|refine zb ?_)
   all_goals conv=>whnf
   all_goals rfl
end Go.Proofs.YtfkfficabeclcaaGreatDoor
