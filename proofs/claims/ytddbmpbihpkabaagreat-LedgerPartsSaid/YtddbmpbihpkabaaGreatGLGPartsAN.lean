import Derived.Test.YtddbmpbihpkabaaGreatGLGPartsAM
set_option linter.all false
namespace Go.Proofs.YtddbmpbihpkabaaGreat
open Go.RowKit Go.Sort
theorem rcommon_any (a b:Nat) (w:World) :
  Calls Tryz.prog 137 #[.int .u64 a,.int .u64 b] w fun e w'=>e=.returned (.int .u64 (Nat.gcd a b:Nat))∧Below w.heap.size w w':=by
 go_enter Tryz.func137,Tryz.ntmps137
 go_wp2
 go_loopw [0,1] (fun x y wr=>∃ n m:Nat,x=.int .u64 n∧y=.int .u64 m∧Hid (Nat.gcd n m=Nat.gcd a b)∧Below w.heap.size w wr) (fun _ y _=>(intOf y).toNat)
 case atStart=>exact ⟨a,b,rfl,rfl,Lib.hid rfl,Below.refl _ _⟩
 case round =>
  obtain ⟨n,m,rfl,rfl,hg,hb⟩:=hrel
  by_cases h0:0<m
  ·have hz:((m:Int) != 0)=true:=by simp;omega
   have hz2:((m:Int) == 0)=false:=by simp;omega
   go_wp2
   go_quiet (fail)
   go_wp2
   have hlt:=Nat.mod_lt n h0
   refine ⟨⟨m,n % m,rfl,by simp,Lib.hid ?_,below_drewN hb _⟩,?_⟩
   ·rw [← hg.out,Nat.gcd_comm n m,Nat.gcd_rec m n,Nat.gcd_comm]
   ·show ((n:Int) % (m:Int)).toNat<((m:Int)).toNat
    omega
  ·obtain rfl:m=0:=by omega
   go_wp2
   go_ret
   refine ⟨ret_int ?_,hb⟩
   rw [← hg.out]
   simp
theorem rsize_any (n:Int) (w:World) (h0 : -9223372036854775808≤n) (h1:n≤9223372036854775807) :
  Calls Tryz.prog 138 #[.int .i64 n] w fun e w'=>e=.returned (.int .u64 (n.natAbs:Nat))∧Below w.heap.size w w':=by
 by_cases hn:n<0
 ·go_enter Tryz.func138,Tryz.ntmps138
  go_wp2_with (first|((with_reducible refine wp_region_quiet_below ?_ ?_ ?_);kernel_rfl;kernel_rfl;(repeat (go_big_quiet_step (fail)));refine wpQuiet_nil ?_;intro _ hw';obtain ⟨⟨dq,osq⟩,hw''⟩:=hw';subst hw''))
  go_ret
  refine ⟨ret_int ?_,Below.refl _ _⟩
  show -(n+1)+1=_
  omega
 ·go_enter Tryz.func138,Tryz.ntmps138
  go_wp2_with (first|((with_reducible refine wp_region_quiet_below ?_ ?_ ?_);kernel_rfl;kernel_rfl;(repeat (go_big_quiet_step (fail)));refine wpQuiet_nil ?_;intro _ hw';obtain ⟨⟨dq,osq⟩,hw''⟩:=hw';subst hw''))
  go_ret
  refine ⟨ret_int ?_,Below.refl _ _⟩
  omega
theorem chk_alt (n d:Int) (hd:1≤d) (hn:n ≠ -9223372036854775808):chk n d=if Nat.gcd n.natAbs d.toNat≤1 then 0 else 8:=by
 unfold chk
 rw [Nat.gcd_comm]
 split<;>split<;>first|rfl|omega
theorem rcheck_any (n d:Int) (w:World) (h0 : -9223372036854775808≤n) (h1:n≤9223372036854775807) (h2 : -9223372036854775808≤d) (h3:d≤9223372036854775807) :
  Calls Tryz.prog 100 #[.agg #[.int .i64 n,.int .i64 d]] w fun e w'=>e=.returned (.int .i64 (chk n d))∧Below w.heap.size w w':=by
 by_cases hd:d<1
 ·have hch:chk n d=8:=by unfold chk;rw [if_pos (.inl hd)]
  rw [hch]
  go_enter Tryz.func100,Tryz.ntmps100
  go_wp2_with (first|((with_reducible refine wp_region_quiet_below ?_ ?_ ?_);kernel_rfl;kernel_rfl;(repeat (go_big_quiet_step (fail)));refine wpQuiet_nil ?_;intro _ hw';obtain ⟨⟨dq,osq⟩,hw''⟩:=hw';subst hw''))
  go_ret
  exact ⟨rfl,(by repeat (first|exact Below.refl _ _|refine below_reg ?_ _ _|refine below_alloc ?_ _|exact below_drewN ?_ _|assumption))⟩
 ·have hdf:decide (d<1)=false:=by simpa using hd
  by_cases hm:n = -9223372036854775808
  ·have hch:chk n d=8:=by unfold chk;rw [if_pos (.inr (.inl hm))]
   rw [hch]
   have hmb:(n == -9223372036854775808)=true:=by simpa using hm
   clear hm
   go_enter Tryz.func100,Tryz.ntmps100
   go_wp2_with (first|((with_reducible refine wp_region_quiet_below ?_ ?_ ?_);kernel_rfl;kernel_rfl;(repeat (go_big_quiet_step (fail)));refine wpQuiet_nil ?_;intro _ hw';obtain ⟨⟨dq,osq⟩,hw''⟩:=hw';subst hw''))
   go_ret
   exact ⟨rfl,(by repeat (first|exact Below.refl _ _|refine below_reg ?_ _ _|refine below_alloc ?_ _|exact below_drewN ?_ _|assumption))⟩
  ·have hmb:(n == -9223372036854775808)=false:=by simpa using hm
   rw [chk_alt n d (by omega) hm]
   obtain ⟨e,rfl⟩:=Int.eq_ofNat_of_zero_le (show 0≤d by omega)
   rw [Int.toNat_natCast]
   obtain ⟨g,hg⟩:∃ g,g=Nat.gcd n.natAbs e:=⟨_,rfl⟩
   have HG:=fun w=>rcommon_any n.natAbs e w
   have hg0:0<g:=by rw [hg];exact Nat.gcd_pos_of_pos_right _ (by omega)
   rw [← hg] at HG ⊢
   have HGG:=Lib.hid HG
   clear hg HG hm
   cases hb:((g:Int) != 1)
   ·rw [if_pos (by simp at hb;omega)]
    go_enter Tryz.func100,Tryz.ntmps100
    go_wp2_with (first|(go_at_call 138;(with_reducible refine cmono ?_ (rsize_any _ _ ?_ ?_));rotate_left;omega;omega;rintro e w' ⟨rfl,hbc0⟩;obtain ⟨⟨dc0,osc0⟩,rfl⟩:=regrown_of_below hbc0;clear hbc0)|(go_at_call 137;(with_reducible refine cmono ?_ (HGG.out _));rotate_left;rintro e w' ⟨rfl,hbc1⟩;obtain ⟨⟨dc1,osc1⟩,rfl⟩:=regrown_of_below hbc1;clear hbc1)|((with_reducible refine wp_region_quiet_below ?_ ?_ ?_);kernel_rfl;kernel_rfl;(repeat (go_big_quiet_step (first|(go_at_call 138;(with_reducible refine Calls.regrown_of (rsize_any _ _ ?_ ?_));omega;omega)|(go_at_call 137;(with_reducible refine Calls.regrown_of (HGG.out _))))));refine wpQuiet_nil ?_;intro _ hw';obtain ⟨⟨dq,osq⟩,hw''⟩:=hw';subst hw''))
    go_ret
    exact ⟨rfl,(by repeat (first|exact Below.refl _ _|refine below_reg ?_ _ _|refine below_alloc ?_ _|exact below_drewN ?_ _|assumption))⟩
   ·rw [if_neg (by simp at hb;omega)]
    go_enter Tryz.func100,Tryz.ntmps100
    go_wp2_with (first|(go_at_call 138;(with_reducible refine cmono ?_ (rsize_any _ _ ?_ ?_));rotate_left;omega;omega;rintro e w' ⟨rfl,hbc0⟩;obtain ⟨⟨dc0,osc0⟩,rfl⟩:=regrown_of_below hbc0;clear hbc0)|(go_at_call 137;(with_reducible refine cmono ?_ (HGG.out _));rotate_left;rintro e w' ⟨rfl,hbc1⟩;obtain ⟨⟨dc1,osc1⟩,rfl⟩:=regrown_of_below hbc1;clear hbc1)|((with_reducible refine wp_region_quiet_below ?_ ?_ ?_);kernel_rfl;kernel_rfl;(repeat (go_big_quiet_step (first|(go_at_call 138;(with_reducible refine Calls.regrown_of (rsize_any _ _ ?_ ?_));omega;omega)|(go_at_call 137;(with_reducible refine Calls.regrown_of (HGG.out _))))));refine wpQuiet_nil ?_;intro _ hw';obtain ⟨⟨dq,osq⟩,hw''⟩:=hw';subst hw''))
    go_ret
    exact ⟨rfl,(by repeat (first|exact Below.refl _ _|refine below_reg ?_ _ _|refine below_alloc ?_ _|exact below_drewN ?_ _|assumption))⟩
theorem rasked_any (n d:Int) (w:World) (h0 : -9223372036854775808≤n) (h1:n≤9223372036854775807) (h2 : -9223372036854775808≤d) (h3:d≤9223372036854775807) :
  Calls Tryz.prog 66 #[.agg #[.int .i64 n,.int .i64 d]] w fun e w'=>e=.returned (.int .i64 (askd n d))∧Below w.heap.size w w':=by
 cases ha:decide ((1073741824:Int)<n)<;>cases hb:decide (n < -1073741824)<;>cases hc:decide (1024<d)
 all_goals
  go_enter Tryz.func66,Tryz.ntmps66
  go_wp2_with (first|(go_at_call 100;(with_reducible refine cmono ?_ (rcheck_any _ _ _ ?_ ?_ ?_ ?_));rotate_left;omega;omega;omega;omega;rintro e w' ⟨rfl,hbc0⟩;obtain ⟨⟨dc0,osc0⟩,rfl⟩:=regrown_of_below hbc0;clear hbc0)|((with_reducible refine wp_region_quiet_below ?_ ?_ ?_);kernel_rfl;kernel_rfl;(repeat (go_big_quiet_step (first|(go_at_call 100;(with_reducible refine Calls.regrown_of (rcheck_any _ _ _ ?_ ?_ ?_ ?_));omega;omega;omega;omega))));refine wpQuiet_nil ?_;intro _ hw';obtain ⟨⟨dq,osq⟩,hw''⟩:=hw';subst hw''))
  all_goals (go_ret;refine ⟨ret_int ?_,(by repeat (first|exact Below.refl _ _|refine below_reg ?_ _ _|refine below_alloc ?_ _|exact below_drewN ?_ _|assumption))⟩)
  all_goals (simp only [bne_iff_ne,bne_eq_false_iff_eq,decide_eq_true_eq,decide_eq_false_iff_not,ne_eq] at *)
  all_goals first|(exfalso;omega)|skip
  all_goals (unfold askd;(first|rw [if_pos (by omega)]|rw [if_neg (by omega)]))
  all_goals (first|rfl|(rw [if_pos (by omega)];done)|(rw [if_neg (by omega)];done))
theorem rboth_any (n d m e:Int) (w:World) (h0 : -9223372036854775808≤n) (h1:n≤9223372036854775807) (h2 : -9223372036854775808≤d) (h3:d≤9223372036854775807)
  (k0 : -9223372036854775808≤m) (k1:m≤9223372036854775807) (k2 : -9223372036854775808≤e) (k3:e≤9223372036854775807) :
  Calls Tryz.prog 158 #[.agg #[.int .i64 n,.int .i64 d],.agg #[.int .i64 m,.int .i64 e]] w fun en w'=>en=.returned (.int .i64 (bth n d m e))∧Below w.heap.size w w':=by
 have c1:=chk_08 n d
 go_enter Tryz.func158,Tryz.ntmps158
 go_wp2_with (first|(go_at_call 100;(with_reducible refine cmono ?_ (rcheck_any _ _ _ ?_ ?_ ?_ ?_));rotate_left;omega;omega;omega;omega;rintro e w' ⟨rfl,hbc0⟩;obtain ⟨⟨dc0,osc0⟩,rfl⟩:=regrown_of_below hbc0;clear hbc0)|((with_reducible refine wp_region_quiet_below ?_ ?_ ?_);kernel_rfl;kernel_rfl;(repeat (go_big_quiet_step (first|(go_at_call 100;(with_reducible refine Calls.regrown_of (rcheck_any _ _ _ ?_ ?_ ?_ ?_));omega;omega;omega;omega))));refine wpQuiet_nil ?_;intro _ hw';obtain ⟨⟨dq,osq⟩,hw''⟩:=hw';subst hw''))
 all_goals (go_ret;refine ⟨ret_int ?_,(by repeat (first|exact Below.refl _ _|refine below_reg ?_ _ _|refine below_alloc ?_ _|exact below_drewN ?_ _|assumption))⟩)
 all_goals (simp only [bne_iff_ne,bne_eq_false_iff_eq,ne_eq] at *)
 all_goals (unfold bth;first|rw [if_pos (by omega)]|(rw [if_neg (by omega)];omega))
theorem rmade_any (x y z:Bool) (a b c d:Nat) (w:World) (hb:b<18446744073709551616) (hd:d<18446744073709551616) :
  Calls Tryz.prog 159 #[.bool x,.agg #[.bool y,.int .u64 a,.int .u64 b],.agg #[.bool z,.int .u64 c,.int .u64 d]] w fun e w' =>
   e=.returned (.tuple #[.agg #[.int .i64 (buildN x (a*18446744073709551616+b) (c*18446744073709551616+d)).1,.int .i64 (buildN x (a*18446744073709551616+b) (c*18446744073709551616+d)).2.1],
    .int .i64 (buildN x (a*18446744073709551616+b) (c*18446744073709551616+d)).2.2])∧Below w.heap.size w w':=by
 by_cases hfit:a=0∧c=0∧b≤9223372036854775807∧d≤9223372036854775807
 ·obtain ⟨rfl,rfl,h1,h2⟩:=hfit
  have hB:buildN x (0*18446744073709551616+b) (0*18446744073709551616+d)=(if x then -(b:Int) else b,(d:Int),0):=by
   unfold buildN;rw [if_pos ⟨by omega,by omega⟩];simp
  rw [hB]
  clear hB
  cases x
  ·go_enter Tryz.func159,Tryz.ntmps159
   go_wp2_with (first|((with_reducible refine wp_region_quiet_below ?_ ?_ ?_);kernel_rfl;kernel_rfl;(repeat (go_big_quiet_step (fail)));refine wpQuiet_nil ?_;intro _ hw';obtain ⟨⟨dq,osq⟩,hw''⟩:=hw';subst hw''))
   refine bodyPost_ret (v:=.tuple #[.agg #[.int .i64 (b:Int),.int .i64 (d:Int)],.int .i64 0]) (by simp [results,Tryz.results159,go_sem]) rfl ⟨rfl,(by repeat (first|exact Below.refl _ _|refine below_reg ?_ _ _|refine below_alloc ?_ _|exact below_drewN ?_ _|assumption))⟩
  ·go_enter Tryz.func159,Tryz.ntmps159
   go_wp2_with (first|((with_reducible refine wp_region_quiet_below ?_ ?_ ?_);kernel_rfl;kernel_rfl;(repeat (go_big_quiet_step (fail)));refine wpQuiet_nil ?_;intro _ hw';obtain ⟨⟨dq,osq⟩,hw''⟩:=hw';subst hw''))
   refine bodyPost_ret (v:=.tuple #[.agg #[.int .i64 (-(b:Int)),.int .i64 (d:Int)],.int .i64 0]) (by simp [results,Tryz.results159,go_sem]) rfl ⟨rfl,(by repeat (first|exact Below.refl _ _|refine below_reg ?_ _ _|refine below_alloc ?_ _|exact below_drewN ?_ _|assumption))⟩
 ·have hB:buildN x (a*18446744073709551616+b) (c*18446744073709551616+d)=(0,0,16):=by
   unfold buildN;rw [if_neg (by omega)]
  rw [hB]
  clear hB
  go_enter Tryz.func159,Tryz.ntmps159
  go_wp2_with (first|((with_reducible refine wp_region_quiet_below ?_ ?_ ?_);kernel_rfl;kernel_rfl;(repeat (go_big_quiet_step (fail)));refine wpQuiet_nil ?_;intro _ hw';obtain ⟨⟨dq,osq⟩,hw''⟩:=hw';subst hw''))
  all_goals first
   | (exfalso;omega)
   | refine bodyPost_ret (v:=.tuple #[.agg #[.int .i64 0,.int .i64 0],.int .i64 16]) (by simp [results,Tryz.results159,go_sem]) rfl ⟨rfl,(by repeat (first|exact Below.refl _ _|refine below_reg ?_ _ _|refine below_alloc ?_ _|exact below_drewN ?_ _|assumption))⟩
set_option maxHeartbeats 4000000 in
theorem rmakeV_any (n d:Int) (w:World) (h0 : -9223372036854775808≤n) (h1:n≤9223372036854775807) (h2 : -9223372036854775808≤d) (h3:d≤9223372036854775807) :
  Calls Tryz.prog 180 #[.int .i64 n,.int .i64 d] w fun e w' =>
   e=.returned (.tuple #[.agg #[.int .i64 (makeV n d).1,.int .i64 (makeV n d).2.1],.int .i64 (makeV n d).2.2])∧Below w.heap.size w w':=by
 unfold makeV
 by_cases hd:d=0
 ·subst hd
  rw [if_pos rfl]
  go_enter Tryz.func180,Tryz.ntmps180
  go_wp2_with (first|((with_reducible refine wp_region_quiet_below ?_ ?_ ?_);kernel_rfl;kernel_rfl;(repeat (go_big_quiet_step (fail)));refine wpQuiet_nil ?_;intro _ hw';obtain ⟨⟨dq,osq⟩,hw''⟩:=hw';subst hw''))
  refine bodyPost_ret (v:=.tuple #[.agg #[.int .i64 0,.int .i64 0],.int .i64 26]) (by simp [results,Tryz.results180,go_sem]) rfl ⟨rfl,(by repeat (first|exact Below.refl _ _|refine below_reg ?_ _ _|refine below_alloc ?_ _|exact below_drewN ?_ _|assumption))⟩
 ·rw [if_neg hd]
  have hz:(d == 0)=false:=by simpa using hd
  have hg1:0<Nat.gcd n.natAbs d.natAbs:=Nat.gcd_pos_of_pos_right _ (by omega)
  have hna:=Nat.div_le_self n.natAbs (Nat.gcd n.natAbs d.natAbs)
  have hda:=Nat.div_le_self d.natAbs (Nat.gcd n.natAbs d.natAbs)
  obtain ⟨g,hgd⟩:∃ g,g=Nat.gcd n.natAbs d.natAbs:=⟨_,rfl⟩
  have HG:=fun w=>rcommon_any n.natAbs d.natAbs w
  rw [← hgd] at hg1 hna hda HG ⊢
  have HGG:=Lib.hid HG
  clear HG hgd
  have hgz:((g:Int) == 0)=false:=by simp;omega
  have W1:IntKind.u64.wrap ((n.natAbs:Int) / (g:Int))=((n.natAbs / g:Nat):Int):=by
   rw [IntKind.wrap_u64,← Int.natCast_ediv];exact Int.emod_eq_of_lt (Int.natCast_nonneg _) (by omega)
  have W2:IntKind.u64.wrap ((d.natAbs:Int) / (g:Int))=((d.natAbs / g:Nat):Int):=by
   rw [IntKind.wrap_u64,← Int.natCast_ediv];exact Int.emod_eq_of_lt (Int.natCast_nonneg _) (by omega)
  obtain ⟨x,hx⟩:∃ x,x=n.natAbs / g:=⟨_,rfl⟩
  obtain ⟨y,hy⟩:∃ y,y=d.natAbs / g:=⟨_,rfl⟩
  have hx0:n=0→x=0:=by intro h;rw [hx,h];simp
  rw [← hx] at hna W1 ⊢
  rw [← hy] at hda W2 ⊢
  have HB:∀ (s:Bool),(s=(!(decide (n<0) == decide (d<0)))∨x=0)→∀ w,Calls Tryz.prog 159 #[.bool s,.agg #[.bool false,.int .u64 0,.int .u64 x],.agg #[.bool false,.int .u64 0,.int .u64 y]] w fun e w' =>
    e=.returned (.tuple #[.agg #[.int .i64 (buildN (!(decide (n<0) == decide (d<0))) x y).1,.int .i64 (buildN (!(decide (n<0) == decide (d<0))) x y).2.1],.int .i64 (buildN (!(decide (n<0) == decide (d<0))) x y).2.2])∧Below w.heap.size w w':=by
   intro s hs w
   have h:=rmade_any s false false 0 x 0 y w (by omega) (by omega)
   simp only [Nat.zero_mul,Nat.zero_add,cast0] at h
   have e:buildN s x y=buildN (!(decide (n<0) == decide (d<0))) x y:=by
    rcases hs with hs|hs
    ·rw [hs]
    ·subst hs;unfold buildN;split<;>cases s<;>cases (!(decide (n<0) == decide (d<0)))<;>simp
   rw [e] at h
   exact h
  have HBB:=Lib.hid HB
  clear HB hx hy
  obtain ⟨V,hV⟩:∃ V,V=buildN (!(decide (n<0) == decide (d<0))) x y:=⟨_,rfl⟩
  rw [← hV] at HBB ⊢
  clear hV
  obtain ⟨s,hs,hs2⟩:∃ s:Bool,s=((!(decide (n<0) == decide (d<0))) && !(n == 0))∧(s=(!(decide (n<0) == decide (d<0)))∨x=0):=by
   refine ⟨_,rfl,?_⟩
   by_cases h:n=0
   ·right;exact hx0 h
   ·left;simp [h]
  have HS:=Lib.hid (HBB.out s hs2)
  clear hs2
  cases hn:decide (n<0)<;>cases hdd:decide (d<0)<;>cases hn0:(n == 0)
  all_goals first|(exfalso;simp at hn hn0;omega)|skip
  all_goals
   rw [hn,hdd,hn0] at hs
   simp at hs
   subst hs
   have hn1:(n != 0) = !(n == 0):=rfl
   rw [hn0] at hn1
   simp only [Bool.not_true,Bool.not_false] at hn1
   go_enter Tryz.func180,Tryz.ntmps180
   go_wp2_with (first|(go_at_call 138;(with_reducible refine cmono ?_ (rsize_any _ _ ?_ ?_));rotate_left;omega;omega;rintro e w' ⟨rfl,hbc0⟩;obtain ⟨⟨dc0,osc0⟩,rfl⟩:=regrown_of_below hbc0;clear hbc0)|(go_at_call 137;(with_reducible refine cmono ?_ (HGG.out _));rotate_left;rintro e w' ⟨rfl,hbc1⟩;obtain ⟨⟨dc1,osc1⟩,rfl⟩:=regrown_of_below hbc1;clear hbc1)|(go_at_call 159;(with_reducible refine cmono ?_ (HS.out _));rotate_left;rintro e w' ⟨rfl,hbc2⟩;obtain ⟨⟨dc2,osc2⟩,rfl⟩:=regrown_of_below hbc2;clear hbc2)|((with_reducible refine wp_region_quiet_below ?_ ?_ ?_);kernel_rfl;kernel_rfl;(repeat (go_big_quiet_step (first|(go_at_call 138;(with_reducible refine Calls.regrown_of (rsize_any _ _ ?_ ?_));omega;omega)|(go_at_call 137;(with_reducible refine Calls.regrown_of (HGG.out _)))|(go_at_call 159;(with_reducible refine Calls.regrown_of (HS.out _))))));refine wpQuiet_nil ?_;intro _ hw';obtain ⟨⟨dq,osq⟩,hw''⟩:=hw';subst hw'')|((with_reducible refine wp_region_tail_below 22 ?_ ?_ ?_);kernel_rfl;kernel_rfl;simp only [List.take_succ_cons,List.take_zero,List.drop_succ_cons,List.drop_zero];(repeat (go_big_quiet_step (first|(go_at_call 138;(with_reducible refine Calls.regrown_of (rsize_any _ _ ?_ ?_));omega;omega)|(go_at_call 137;(with_reducible refine Calls.regrown_of (HGG.out _)))|(go_at_call 159;(with_reducible refine Calls.regrown_of (HS.out _))))));refine wpQuiet_nil ?_;intro _ hw';obtain ⟨⟨dq,osq⟩,hw''⟩:=hw';subst hw''))
   refine bodyPost_ret (v:=.tuple #[.agg #[.int .i64 V.1,.int .i64 V.2.1],.int .i64 V.2.2]) (by simp [results,Tryz.results180,go_sem]) rfl ⟨rfl,(by repeat (first|exact Below.refl _ _|refine below_reg ?_ _ _|refine below_alloc ?_ _|exact below_drewN ?_ _|assumption))⟩
end Go.Proofs.YtddbmpbihpkabaaGreat

namespace Go.Proofs.YtddbmpbihpkabaaGreat
open Go.RowKit
theorem half_mul (H ah al bh bl:Nat) (hal:al<H) (hbl:bl<H) (hH:0<H) :
  (ah*bh+(ah*bl+al*bl / H) / H+(al*bh+(ah*bl+al*bl / H) % H) / H)*(H*H)+((al*bh+(ah*bl+al*bl / H) % H) % H*H+al*bl % H)=(ah*H+al)*(bh*H+bl) ∧
  (al*bh+(ah*bl+al*bl / H) % H) % H*H+al*bl % H<H*H:=by
 have d1:=Nat.div_add_mod (al*bl) H
 have d2:=Nat.div_add_mod (ah*bl+al*bl / H) H
 have d3:=Nat.div_add_mod (al*bh+(ah*bl+al*bl / H) % H) H
 have l1:=Nat.mod_lt (al*bl) hH
 have l3:=Nat.mod_lt (al*bh+(ah*bl+al*bl / H) % H) hH
 have e:(ah*H+al)*(bh*H+bl)=ah*bh*(H*H)+(ah*bl+al*bh)*H+al*bl:=by
  rw [Nat.add_mul,Nat.mul_add,Nat.mul_add,Nat.add_mul (ah*bl)]
  have e1:ah*H*(bh*H)=ah*bh*(H*H):=by rw [Nat.mul_assoc,Nat.mul_assoc,← Nat.mul_assoc H bh H,Nat.mul_comm H bh,Nat.mul_assoc bh H H]
  have e2:ah*H*bl=ah*bl*H:=by rw [Nat.mul_assoc,Nat.mul_comm H bl,← Nat.mul_assoc]
  have e3:al*(bh*H)=al*bh*H:=by rw [Nat.mul_assoc]
  omega
 rw [e]
 generalize al*bl / H=x1 at *
 generalize al*bl % H=y1 at *
 generalize (ah*bl+x1) / H=x2 at *
 generalize (ah*bl+x1) % H=y2 at *
 generalize (al*bh+y2) / H=x3 at *
 generalize (al*bh+y2) % H=y3 at *
 generalize hp1:al*bl=p1 at *
 generalize hp2:ah*bl=p2 at *
 generalize hp3:al*bh=p3 at *
 generalize hp4:ah*bh=p4 at *
 constructor
 ·have f2:(p2+x1)*H=(H*x2+y2)*H:=by rw [d2]
  have f3:(p3+y2)*H=(H*x3+y3)*H:=by rw [d3]
  rw [Nat.add_mul,Nat.add_mul] at f2 f3
  have g2:H*x2*H=x2*(H*H):=by rw [Nat.mul_comm H x2,Nat.mul_assoc]
  have g3:H*x3*H=x3*(H*H):=by rw [Nat.mul_comm H x3,Nat.mul_assoc]
  have g1:H*x1=x1*H:=Nat.mul_comm _ _
  rw [Nat.add_mul,Nat.add_mul,Nat.add_mul]
  omega
 ·have:(y3+1)*H≤H*H:=Nat.mul_le_mul_right _ l3
  rw [Nat.add_mul] at this
  omega
theorem sub_borrow (W a b c d:Nat) (hb:b<W) (hd:d<W) (hlt:b<d) (hle:c*W+d≤a*W+b) :
  c+1≤a∧(a*W+b-(c*W+d)) / W=a-c-1∧(a*W+b-(c*W+d)) % W=W+b-d:=by
 have hca:c+1≤a:=by
  rcases Nat.lt_or_ge c a with h|h
  ·exact h
  ·have:=Nat.mul_le_mul_right W h;omega
 obtain ⟨k,rfl⟩:∃ k,a=c+1+k:=⟨a-c-1,by omega⟩
 have e:(c+1+k)*W+b-(c*W+d)=k*W+(W+b-d):=by
  rw [Nat.add_mul,Nat.add_mul,Nat.one_mul];omega
 rw [e]
 exact ⟨hca,by rw [hi_of W k _ (by omega)];omega,lo_of W k _ (by omega)⟩
theorem sub_plain (W a b c d:Nat) (hb:b<W) (hlt:¬ b<d) (hle:c*W+d≤a*W+b) :
  c≤a∧(a*W+b-(c*W+d)) / W=a-c∧(a*W+b-(c*W+d)) % W=b-d:=by
 have hca:c≤a:=by
  rcases Nat.lt_or_ge a c with h|h
  ·have:=Nat.mul_le_mul_right W (show a+1≤c from h)
   rw [Nat.add_mul] at this;omega
  ·exact h
 obtain ⟨k,rfl⟩:∃ k,a=c+k:=⟨a-c,by omega⟩
 have e:(c+k)*W+b-(c*W+d)=k*W+(b-d):=by
  rw [Nat.add_mul];omega
 rw [e]
 exact ⟨hca,by rw [hi_of W k _ (by omega)];omega,lo_of W k _ (by omega)⟩
theorem add_carry (W a b c d:Nat) (hb:b<W) (hd:d<W) (h:W≤b+d) :
  (a*W+b+(c*W+d)) / W=a+c+1∧(a*W+b+(c*W+d)) % W=b+d-W:=by
 have e:a*W+b+(c*W+d)=(a+c+1)*W+(b+d-W):=by
  rw [Nat.add_mul,Nat.add_mul,Nat.one_mul];omega
 rw [e]
 exact ⟨hi_of W _ _ (by omega),lo_of W _ _ (by omega)⟩
theorem radd_plain (W a b c d:Nat) (h:b+d<W) :
  (a*W+b+(c*W+d)) / W=a+c∧(a*W+b+(c*W+d)) % W=b+d:=by
 have e:a*W+b+(c*W+d)=(a+c)*W+(b+d):=by
  rw [Nat.add_mul];omega
 rw [e]
 exact ⟨hi_of W _ _ h,lo_of W _ _ h⟩
end Go.Proofs.YtddbmpbihpkabaaGreat

namespace Go.Proofs.YtddbmpbihpkabaaGreat
open Go.RowKit Go.Sort
theorem rproduct_any (a b hi lo:Nat) (h:Two hi lo (a*b)) (w:World) (ha:a<18446744073709551616) (hb:b<18446744073709551616) :
  Calls Tryz.prog 154 #[.int .u64 a,.int .u64 b] w fun e w'=>e=.returned (.agg #[.bool false,.int .u64 hi,.int .u64 lo])∧Below w.heap.size w w':=by
 obtain ⟨ah,hah⟩:∃ ah,ah=a / 4294967296:=⟨_,rfl⟩
 obtain ⟨al,hal⟩:∃ al,al=a % 4294967296:=⟨_,rfl⟩
 obtain ⟨bh,hbh⟩:∃ bh,bh=b / 4294967296:=⟨_,rfl⟩
 obtain ⟨bl,hbl⟩:∃ bl,bl=b % 4294967296:=⟨_,rfl⟩
 have A1:(a:Int) / 4294967296=(ah:Int):=by omega
 have A2:(a:Int) % 4294967296=(al:Int):=by omega
 have B1:(b:Int) / 4294967296=(bh:Int):=by omega
 have B2:(b:Int) % 4294967296=(bl:Int):=by omega
 have ah1:ah≤4294967295:=by omega
 have al1:al≤4294967295:=by omega
 have bh1:bh≤4294967295:=by omega
 have bl1:bl≤4294967295:=by omega
 obtain ⟨q1,q2⟩:=half_mul 4294967296 ah al bh bl (by omega) (by omega) (by decide)
 have hab:(ah*4294967296+al)*(bh*4294967296+bl)=a*b:=by
  have e1:ah*4294967296+al=a:=by rw [hah,hal,Nat.mul_comm];exact Nat.div_add_mod _ _
  have e2:bh*4294967296+bl=b:=by rw [hbh,hbl,Nat.mul_comm];exact Nat.div_add_mod _ _
  rw [e1,e2]
 obtain ⟨p1,hp1⟩:∃ p,p=al*bl:=⟨_,rfl⟩
 obtain ⟨p2,hp2⟩:∃ p,p=ah*bl:=⟨_,rfl⟩
 obtain ⟨p3,hp3⟩:∃ p,p=al*bh:=⟨_,rfl⟩
 obtain ⟨p4,hp4⟩:∃ p,p=ah*bh:=⟨_,rfl⟩
 have c1:p1≤18446744065119617025:=by rw [hp1];exact Nat.mul_le_mul al1 bl1
 have c2:p2≤18446744065119617025:=by rw [hp2];exact Nat.mul_le_mul ah1 bl1
 have c3:p3≤18446744065119617025:=by rw [hp3];exact Nat.mul_le_mul al1 bh1
 have c4:p4≤18446744065119617025:=by rw [hp4];exact Nat.mul_le_mul ah1 bh1
 have W1:IntKind.u64.wrap ((al:Int)*(bl:Int))=(p1:Int):=by rw [IntKind.wrap_u64,← Int.natCast_mul,← hp1];omega
 have W2:IntKind.u64.wrap ((ah:Int)*(bl:Int))=(p2:Int):=by rw [IntKind.wrap_u64,← Int.natCast_mul,← hp2];omega
 have W3:IntKind.u64.wrap ((al:Int)*(bh:Int))=(p3:Int):=by rw [IntKind.wrap_u64,← Int.natCast_mul,← hp3];omega
 have W4:IntKind.u64.wrap ((ah:Int)*(bh:Int))=(p4:Int):=by rw [IntKind.wrap_u64,← Int.natCast_mul,← hp4];omega
 rw [← hp1,← hp2,← hp3,← hp4] at q1
 rw [← hp1,← hp2,← hp3] at q2
 rw [hab] at q1
 clear hp1 hp2 hp3 hp4 hab hah hal hbh hbl
 obtain ⟨x1,hx1⟩:∃ x,x=p1 / 4294967296:=⟨_,rfl⟩
 obtain ⟨y1,hy1⟩:∃ y,y=p1 % 4294967296:=⟨_,rfl⟩
 rw [← hx1,← hy1] at q1 q2
 obtain ⟨m,hm⟩:∃ m,m=p2+x1:=⟨_,rfl⟩
 rw [← hm] at q1 q2
 obtain ⟨x2,hx2⟩:∃ x,x=m / 4294967296:=⟨_,rfl⟩
 obtain ⟨y2,hy2⟩:∃ y,y=m % 4294967296:=⟨_,rfl⟩
 rw [← hy2] at q1 q2
 rw [← hx2] at q1
 obtain ⟨n,hn⟩:∃ n,n=p3+y2:=⟨_,rfl⟩
 rw [← hn] at q1 q2
 obtain ⟨x3,hx3⟩:∃ x,x=n / 4294967296:=⟨_,rfl⟩
 obtain ⟨y3,hy3⟩:∃ y,y=n % 4294967296:=⟨_,rfl⟩
 rw [← hy3] at q1 q2
 rw [← hx3] at q1
 obtain ⟨k,hk⟩:∃ k,k=y3*4294967296+y1:=⟨_,rfl⟩
 obtain ⟨j,hj⟩:∃ j,j=p4+x2+x3:=⟨_,rfl⟩
 rw [← hk] at q1 q2
 rw [← hj] at q1
 have X1:(p1:Int) / 4294967296=(x1:Int):=by omega
 have Y1:(p1:Int) % 4294967296=(y1:Int):=by omega
 have M1:(p2:Int)+(x1:Int)=(m:Int):=by omega
 have X2:(m:Int) / 4294967296=(x2:Int):=by omega
 have Y2:(m:Int) % 4294967296=(y2:Int):=by omega
 have N1:(p3:Int)+(y2:Int)=(n:Int):=by omega
 have X3:(n:Int) / 4294967296=(x3:Int):=by omega
 have Y3:(n:Int) % 4294967296=(y3:Int):=by omega
 have y1b:y1<4294967296:=by omega
 have y3b:y3<4294967296:=by omega
 have x1b:x1<4294967296:=by omega
 have x2b:x2<4294967296:=by omega
 have x3b:x3<4294967296:=by omega
 have y2b:y2<4294967296:=by omega
 obtain ⟨e1,e2⟩:=h
 have f1:hi=j:=by rw [e1,← q1];exact hi_of _ j k q2
 have f2:lo=k:=by rw [e2,← q1];exact lo_of _ j k q2
 have g1:IntKind.u64.wrap ((p4:Int)+(x2:Int)+(x3:Int))=(j:Int):=by rw [IntKind.wrap_u64];omega
 subst f1 f2
 have H1:=Lib.hid hj
 have H2:=Lib.hid hk
 clear hj hk hx1 hy1 hm hx2 hy2 hn hx3 hy3 e1 e2 q1 q2 g1
 go_enter Tryz.func154,Tryz.ntmps154
 go_wp2_with (first|((with_reducible refine wp_region_quiet_below ?_ ?_ ?_);kernel_rfl;kernel_rfl;(repeat (go_big_quiet_step (fail)));refine wpQuiet_nil ?_;intro _ hw';obtain ⟨⟨dq,osq⟩,hw''⟩:=hw';subst hw''))
 refine bodyPost_ret (v:=.agg #[.bool false,.int .u64 (hi:Nat),.int .u64 (lo:Nat)]) (by simp [results,Tryz.results154,go_sem];exact ⟨by have:=H1.out;omega,by have:=H2.out;omega⟩) rfl ⟨rfl,(by repeat (first|exact Below.refl _ _|refine below_reg ?_ _ _|refine below_alloc ?_ _|exact below_drewN ?_ _|assumption))⟩
theorem sgn_mul (a b:Int):((!(decide (a<0) == decide (b<0))) && (!(a == 0) && !(b == 0)))=decide (a*b<0):=by
 rcases Int.lt_trichotomy a 0 with h|h|h<;>rcases Int.lt_trichotomy b 0 with h'|h'|h'
 all_goals first
  | (subst h;simp)
  | (subst h';simp)
  | (have:=Int.mul_pos_of_neg_of_neg h h';rw [decide_eq_true h,decide_eq_true h',decide_eq_false (show ¬ a*b<0 by omega)];simp)
  | (have:=Int.mul_neg_of_neg_of_pos h h';rw [decide_eq_true h,decide_eq_false (show ¬ b<0 by omega),decide_eq_true this,beq_eq_false_iff_ne.2 (show a≠0 by omega),beq_eq_false_iff_ne.2 (show b≠0 by omega)];rfl)
  | (have:=Int.mul_neg_of_pos_of_neg h h';rw [decide_eq_false (show ¬ a<0 by omega),decide_eq_true h',decide_eq_true this,beq_eq_false_iff_ne.2 (show a≠0 by omega),beq_eq_false_iff_ne.2 (show b≠0 by omega)];rfl)
  | (have:=Int.mul_pos h h';rw [decide_eq_false (show ¬ a<0 by omega),decide_eq_false (show ¬ b<0 by omega),decide_eq_false (show ¬ a*b<0 by omega)];simp)
theorem rProduct_any (a b:Int) (hi lo:Nat) (h:Two hi lo (a.natAbs*b.natAbs)) (w:World) (h0 : -9223372036854775808≤a) (h1:a≤9223372036854775807) (h2 : -9223372036854775808≤b) (h3:b≤9223372036854775807) :
  Calls Tryz.prog 126 #[.int .i64 a,.int .i64 b] w fun e w'=>e=.returned (.agg #[.bool (decide (a*b<0)),.int .u64 hi,.int .u64 lo])∧Below w.heap.size w w':=by
 have HS:=sgn_mul a b
 rw [← HS]
 have HP:=Lib.hid (rproduct_any a.natAbs b.natAbs hi lo h)
 clear HS
 cases ha:decide (a<0)<;>cases hb:decide (b<0)<;>cases ha0:(a == 0)<;>cases hb0:(b == 0)
 all_goals first|(exfalso;simp at ha hb ha0 hb0;omega)|skip
 all_goals
  have ha1:(a != 0) = !(a == 0):=rfl
  have hb1:(b != 0) = !(b == 0):=rfl
  rw [ha0] at ha1
  rw [hb0] at hb1
  simp only [Bool.not_true,Bool.not_false] at ha1 hb1
  go_enter Tryz.func126,Tryz.ntmps126
  go_wp2_with (first|(go_at_call 138;(with_reducible refine cmono ?_ (rsize_any _ _ ?_ ?_));rotate_left;omega;omega;rintro e w' ⟨rfl,hbc0⟩;obtain ⟨⟨dc0,osc0⟩,rfl⟩:=regrown_of_below hbc0;clear hbc0)|(go_at_call 154;(with_reducible refine cmono ?_ (HP.out _ ?_ ?_));rotate_left;omega;omega;rintro e w' ⟨rfl,hbc1⟩;obtain ⟨⟨dc1,osc1⟩,rfl⟩:=regrown_of_below hbc1;clear hbc1)|((with_reducible refine wp_region_quiet_below ?_ ?_ ?_);kernel_rfl;kernel_rfl;(repeat (go_big_quiet_step (first|(go_at_call 138;(with_reducible refine Calls.regrown_of (rsize_any _ _ ?_ ?_));omega;omega)|(go_at_call 154;(with_reducible refine Calls.regrown_of (HP.out _ ?_ ?_));omega;omega))));refine wpQuiet_nil ?_;intro _ hw';obtain ⟨⟨dq,osq⟩,hw''⟩:=hw';subst hw''))
  first
   | refine bodyPost_ret (v:=.agg #[.bool true,.int .u64 (hi:Nat),.int .u64 (lo:Nat)]) (by simp [results,Tryz.results126,go_sem]) rfl ⟨rfl,(by repeat (first|exact Below.refl _ _|refine below_reg ?_ _ _|refine below_alloc ?_ _|exact below_drewN ?_ _|assumption))⟩
   | refine bodyPost_ret (v:=.agg #[.bool false,.int .u64 (hi:Nat),.int .u64 (lo:Nat)]) (by simp [results,Tryz.results126,go_sem]) rfl ⟨rfl,(by repeat (first|exact Below.refl _ _|refine below_reg ?_ _ _|refine below_alloc ?_ _|exact below_drewN ?_ _|assumption))⟩
theorem rless_any (x y:Bool) (a b c d m n:Nat) (h1:Two a b m) (h2:Two c d n) (w:World) :
  Calls Tryz.prog 128 #[.agg #[.bool x,.int .u64 a,.int .u64 b],.agg #[.bool y,.int .u64 c,.int .u64 d]] w fun en w'=>en=.returned (.int .i64 (cmpN (m:Int) (n:Int)))∧Below w.heap.size w w':=by
 have HC:=cmpN_hi a b c d h1.lo h2.lo
 rw [h1.eq,h2.eq] at HC
 obtain ⟨k,hk⟩:∃ k,k=cmpN (m:Int) (n:Int):=⟨_,rfl⟩
 rw [← hk] at HC ⊢
 have HH:=Lib.hid HC
 clear HC h1 h2 hk
 go_enter Tryz.func128,Tryz.ntmps128
 go_wp2_with (first|((with_reducible refine wp_region_quiet_below ?_ ?_ ?_);kernel_rfl;kernel_rfl;(repeat (go_big_quiet_step (fail)));refine wpQuiet_nil ?_;intro _ hw';obtain ⟨⟨dq,osq⟩,hw''⟩:=hw';subst hw''))
 all_goals (go_ret;refine ⟨ret_int ?_,(by repeat (first|exact Below.refl _ _|refine below_reg ?_ _ _|refine below_alloc ?_ _|exact below_drewN ?_ _|assumption))⟩)
 all_goals (rw [HH.out];unfold cmpN;simp only [bne_iff_ne,ne_eq,bne_eq_false_iff_eq] at *)
 all_goals ((repeat' split)<;>omega)
theorem rminus_any (x y:Bool) (a b c d hi lo m n:Nat) (h1:Two a b m) (h2:Two c d n) (h:Two hi lo (m-n)) (hle:n≤m) (hm:m<9223372036854775807*18446744073709551616) (w:World) :
  Calls Tryz.prog 161 #[.agg #[.bool x,.int .u64 a,.int .u64 b],.agg #[.bool y,.int .u64 c,.int .u64 d]] w fun en w'=>en=.returned (.agg #[.bool false,.int .u64 hi,.int .u64 lo])∧Below w.heap.size w w':=by
 have e1:=h1.eq
 have e2:=h2.eq
 have l1:=h1.lo
 have l2:=h2.lo
 have u1:=h1.hi _ hm
 have u2:=h2.hi 9223372036854775807 (Nat.lt_of_le_of_lt hle hm)
 obtain ⟨r1,r2⟩:=h
 rw [← e1,← e2] at r1 r2 hle
 by_cases hb:b<d
 ·obtain ⟨v1,v2,v3⟩:=sub_borrow 18446744073709551616 a b c d l1 l2 hb hle
  rw [v2] at r1
  rw [v3] at r2
  have R1:IntKind.u64.wrap ((a:Int)-(c:Int)-1)=(hi:Int):=by rw [IntKind.wrap_u64];omega
  have R2:IntKind.u64.wrap ((b:Int)-(d:Int))=(lo:Int):=by rw [IntKind.wrap_u64];omega
  have R3:(a:Int)-(c:Int)-1=(hi:Int):=by omega
  have hbd:(b:Int)<(d:Int):=by omega
  clear e1 e2 h1 h2 hm hle r1 r2 v2 v3
  go_enter Tryz.func161,Tryz.ntmps161
  go_wp2_with (first|((with_reducible refine wp_region_quiet_below ?_ ?_ ?_);kernel_rfl;kernel_rfl;(repeat (go_big_quiet_step (fail)));refine wpQuiet_nil ?_;intro _ hw';obtain ⟨⟨dq,osq⟩,hw''⟩:=hw';subst hw''))
  refine bodyPost_ret (v:=.agg #[.bool false,.int .u64 (hi:Nat),.int .u64 (lo:Nat)]) (by simp [results,Tryz.results161,go_sem]) rfl ⟨rfl,(by repeat (first|exact Below.refl _ _|refine below_reg ?_ _ _|refine below_alloc ?_ _|exact below_drewN ?_ _|assumption))⟩
 ·obtain ⟨v1,v2,v3⟩:=sub_plain 18446744073709551616 a b c d l1 hb hle
  rw [v2] at r1
  rw [v3] at r2
  have R1:(a:Int)-(c:Int)=(hi:Int):=by omega
  have R2:(b:Int)-(d:Int)=(lo:Int):=by omega
  have hbd:¬ (b:Int)<(d:Int):=by omega
  have hbe:(d:Int)≤(b:Int):=by omega
  have hca:(c:Int)≤(a:Int):=by omega
  clear e1 e2 h1 h2 hm hle r1 r2 v2 v3
  go_enter Tryz.func161,Tryz.ntmps161
  go_wp2_with (first|((with_reducible refine wp_region_quiet_below ?_ ?_ ?_);kernel_rfl;kernel_rfl;(repeat (go_big_quiet_step (fail)));refine wpQuiet_nil ?_;intro _ hw';obtain ⟨⟨dq,osq⟩,hw''⟩:=hw';subst hw''))
  refine bodyPost_ret (v:=.agg #[.bool false,.int .u64 (hi:Nat),.int .u64 (lo:Nat)]) (by simp [results,Tryz.results161,go_sem]) rfl ⟨rfl,(by repeat (first|exact Below.refl _ _|refine below_reg ?_ _ _|refine below_alloc ?_ _|exact below_drewN ?_ _|assumption))⟩
end Go.Proofs.YtddbmpbihpkabaaGreat

namespace Go.Proofs.YtddbmpbihpkabaaGreat
open Go.RowKit Go.Sort
theorem rSign_any (x:Int) (hi lo:Nat) (h:Two hi lo x.natAbs) (w:World) :
  Calls Tryz.prog 127 #[.agg #[.bool (decide (x<0)),.int .u64 hi,.int .u64 lo]] w fun en w'=>en=.returned (.int .i64 (cmpN x 0))∧Below w.heap.size w w':=by
 have e:=h.eq
 have hz:(hi=0∧lo=0)↔x=0:=by
  constructor
  ·rintro ⟨rfl,rfl⟩;simp at e;omega
  ·rintro rfl
   obtain ⟨e1,e2⟩:=h
   simp at e1 e2;exact ⟨e1,e2⟩
 obtain ⟨k,hk⟩:∃ k,k=cmpN x 0:=⟨_,rfl⟩
 rw [← hk]
 have HK:=Lib.hid hk
 have HZ:=Lib.hid hz
 clear e h hk hz
 cases hs:decide (x<0)<;>cases h1:((hi:Int) == 0)<;>cases h2:((lo:Int) == 0)
 all_goals
  go_enter Tryz.func127,Tryz.ntmps127
  go_wp2_with (first|((with_reducible refine wp_region_quiet_below ?_ ?_ ?_);kernel_rfl;kernel_rfl;(repeat (go_big_quiet_step (fail)));refine wpQuiet_nil ?_;intro _ hw';obtain ⟨⟨dq,osq⟩,hw''⟩:=hw';subst hw''))
  go_ret
  refine ⟨ret_int ?_,(by repeat (first|exact Below.refl _ _|refine below_reg ?_ _ _|refine below_alloc ?_ _|exact below_drewN ?_ _|assumption))⟩
  rw [HK.out]
  have hz:=HZ.out
  simp only [beq_iff_eq,beq_eq_false_iff_ne,decide_eq_true_eq,decide_eq_false_iff_not,ne_eq] at h1 h2 hs
  unfold cmpN
  (repeat' split)<;>first|rfl|omega|(exfalso;omega)
set_option maxHeartbeats 8000000 in
theorem rPlus_any (x y:Int) (a b c d hi lo:Nat) (h1:Two a b x.natAbs) (h2:Two c d y.natAbs) (h:Two hi lo (x+y).natAbs) (hx:x.natAbs<9223372036854775807*18446744073709551616) (hy:y.natAbs<9223372036854775807*18446744073709551616) (w:World) :
  Calls Tryz.prog 133 #[.agg #[.bool (decide (x<0)),.int .u64 a,.int .u64 b],.agg #[.bool (decide (y<0)),.int .u64 c,.int .u64 d]] w fun en w'=>en=.returned (.agg #[.bool (decide (x+y<0)),.int .u64 hi,.int .u64 lo])∧Below w.heap.size w w':=by
 by_cases hs:decide (x<0)=decide (y<0)
 ·have l1:=h1.lo
  have l2:=h2.lo
  have u1:=h1.hi _ hx
  have u2:=h2.hi _ hy
  have hsum:(x+y).natAbs=x.natAbs+y.natAbs:=by
   rcases Bool.eq_false_or_eq_true (decide (x<0)) with hb|hb<;>rw [hb] at hs<;>simp at hb hs<;>omega
  have hsg:decide (x+y<0)=decide (x<0):=by
   rcases Bool.eq_false_or_eq_true (decide (x<0)) with hb|hb<;>rw [hb] at hs ⊢<;>simp at hb hs ⊢<;>omega
  have e1:=h1.eq
  have e2:=h2.eq
  obtain ⟨r1,r2⟩:=h
  rw [hsum,← e1,← e2] at r1 r2
  rw [hsg,← hs]
  obtain ⟨s,hsd⟩:∃ s,s=decide (x<0):=⟨_,rfl⟩
  rw [← hsd]
  by_cases hc:b+d<18446744073709551616
  ·obtain ⟨v1,v2⟩:=radd_plain 18446744073709551616 a b c d hc
   rw [v1] at r1
   rw [v2] at r2
   have R1:(a:Int)+(c:Int)=(hi:Int):=by omega
   have R2:(b:Int)+(d:Int)=(lo:Int):=by omega
   have hlt:¬ (lo:Int)<(b:Int):=by omega
   have hlo:lo<18446744073709551616:=by omega
   have hhi:hi<18446744073709551616:=by omega
   clear e1 e2 h1 h2 hx hy r1 r2 v1 v2 hsum hsg hs hsd
   go_enter Tryz.func133,Tryz.ntmps133
   go_wp2_with (first|((with_reducible refine wp_region_quiet_below ?_ ?_ ?_);kernel_rfl;kernel_rfl;(repeat (go_big_quiet_step (fail)));refine wpQuiet_nil ?_;intro _ hw';obtain ⟨⟨dq,osq⟩,hw''⟩:=hw';subst hw''))
   refine bodyPost_ret (v:=.agg #[.bool s,.int .u64 (hi:Nat),.int .u64 (lo:Nat)]) (by simp [results,Tryz.results133,go_sem]) rfl ⟨rfl,(by repeat (first|exact Below.refl _ _|refine below_reg ?_ _ _|refine below_alloc ?_ _|exact below_drewN ?_ _|assumption))⟩
  ·obtain ⟨v1,v2⟩:=add_carry 18446744073709551616 a b c d l1 l2 (by omega)
   rw [v1] at r1
   rw [v2] at r2
   have R1:(a:Int)+(c:Int)+1=(hi:Int):=by omega
   have R2:IntKind.u64.wrap ((b:Int)+(d:Int))=(lo:Int):=by rw [IntKind.wrap_u64];omega
   have hlt:(lo:Int)<(b:Int):=by omega
   have hlo:lo<18446744073709551616:=by omega
   have hhi:hi<18446744073709551616:=by omega
   clear e1 e2 h1 h2 hx hy r1 r2 v1 v2 hsum hsg hs hsd
   go_enter Tryz.func133,Tryz.ntmps133
   go_wp2_with (first|((with_reducible refine wp_region_quiet_below ?_ ?_ ?_);kernel_rfl;kernel_rfl;(repeat (go_big_quiet_step (fail)));refine wpQuiet_nil ?_;intro _ hw';obtain ⟨⟨dq,osq⟩,hw''⟩:=hw';subst hw''))
   refine bodyPost_ret (v:=.agg #[.bool s,.int .u64 (hi:Nat),.int .u64 (lo:Nat)]) (by simp [results,Tryz.results133,go_sem]) rfl ⟨rfl,(by repeat (first|exact Below.refl _ _|refine below_reg ?_ _ _|refine below_alloc ?_ _|exact below_drewN ?_ _|assumption))⟩
 ·have hsb:(decide (x<0) == decide (y<0))=false:=by simpa using hs
  have hlim:(x+y).natAbs<9223372036854775807*18446744073709551616:=by
   rcases Bool.eq_false_or_eq_true (decide (x<0)) with hb|hb<;>rcases Bool.eq_false_or_eq_true (decide (y<0)) with hb2|hb2<;>rw [hb,hb2] at hs<;>simp at hb hb2 hs<;>omega
  by_cases hge:y.natAbs≤x.natAbs
  ·have hsum:(x+y).natAbs=x.natAbs-y.natAbs:=by
    rcases Bool.eq_false_or_eq_true (decide (x<0)) with hb|hb<;>rcases Bool.eq_false_or_eq_true (decide (y<0)) with hb2|hb2<;>rw [hb,hb2] at hs<;>simp at hb hb2 hs<;>omega
   have HC:=rless_any (decide (x<0)) (decide (y<0)) a b c d _ _ h1 h2
   obtain ⟨k,hk⟩:∃ k,k=cmpN ((x.natAbs:Nat):Int) ((y.natAbs:Nat):Int):=⟨_,rfl⟩
   rw [← hk] at HC
   have hk0:0≤k:=by rw [hk];unfold cmpN;(repeat' split)<;>omega
   have HCH:=Lib.hid HC
   rw [hsum] at h
   have HM:=Lib.hid (rminus_any (decide (x<0)) (decide (y<0)) a b c d hi lo _ _ h1 h2 h hge hx)
   have e:=h.eq
   have hz:(hi=0∧lo=0)↔x+y=0:=by
    rw [← hsum] at e
    constructor
    ·rintro ⟨rfl,rfl⟩;simp at e;omega
    ·intro h0
     obtain ⟨e1,e2⟩:=h
     rw [← hsum,h0] at e1 e2
     simp at e1 e2;exact ⟨e1,e2⟩
   have hsg:decide (x+y<0)=(decide (x<0) && (decide (0<(hi:Int)) || decide (0<(lo:Int)))):=by
    rcases Bool.eq_false_or_eq_true (decide (x<0)) with hb|hb<;>rcases Bool.eq_false_or_eq_true (decide (y<0)) with hb2|hb2<;>rw [hb,hb2] at hs<;>simp at hb hb2 hs
    ·rw [decide_eq_true hb,Bool.true_and,← Bool.decide_or,decide_eq_decide]
     omega
    ·rw [decide_eq_false (show ¬ x<0 by omega),Bool.false_and,decide_eq_false_iff_not]
     omega
   rw [hsg]
   clear HC hk h1 h2 h hx hy hlim hge e hz hsg hsum
   obtain ⟨s,hsd⟩:∃ s,s=decide (x<0):=⟨_,rfl⟩
   obtain ⟨s',hsd'⟩:∃ s',s'=decide (y<0):=⟨_,rfl⟩
   rw [← hsd] at hsb HCH HM ⊢
   rw [← hsd'] at hsb HCH HM ⊢
   clear hsd hsd' hs
   cases s<;>cases s'<;>first|(exfalso;simp at hsb;done)|skip
   all_goals cases hh:decide (0<(hi:Int))<;>cases hl:decide (0<(lo:Int))
   all_goals
    have hh':decide (0<hi)=decide (0<(hi:Int)):=by simp
    have hl':decide (0<lo)=decide (0<(lo:Int)):=by simp
    rw [hh] at hh'
    rw [hl] at hl'
    go_enter Tryz.func133,Tryz.ntmps133
    go_wp2_with (first|(go_at_call 128;(with_reducible refine cmono ?_ (HCH.out _));rotate_left;rintro e w' ⟨rfl,hbc0⟩;obtain ⟨⟨dc0,osc0⟩,rfl⟩:=regrown_of_below hbc0;clear hbc0)|(go_at_call 161;(with_reducible refine cmono ?_ (HM.out _));rotate_left;rintro e w' ⟨rfl,hbc1⟩;obtain ⟨⟨dc1,osc1⟩,rfl⟩:=regrown_of_below hbc1;clear hbc1)|((with_reducible refine wp_region_quiet_below ?_ ?_ ?_);kernel_rfl;kernel_rfl;(repeat (go_big_quiet_step (first|(go_at_call 128;(with_reducible refine Calls.regrown_of (HCH.out _)))|(go_at_call 161;(with_reducible refine Calls.regrown_of (HM.out _))))));refine wpQuiet_nil ?_;intro _ hw';obtain ⟨⟨dq,osq⟩,hw''⟩:=hw';subst hw''))
    first
     | refine bodyPost_ret (v:=.agg #[.bool true,.int .u64 (hi:Nat),.int .u64 (lo:Nat)]) (by simp [results,Tryz.results133,go_sem]) rfl ⟨rfl,(by repeat (first|exact Below.refl _ _|refine below_reg ?_ _ _|refine below_alloc ?_ _|exact below_drewN ?_ _|assumption))⟩
     | refine bodyPost_ret (v:=.agg #[.bool false,.int .u64 (hi:Nat),.int .u64 (lo:Nat)]) (by simp [results,Tryz.results133,go_sem]) rfl ⟨rfl,(by repeat (first|exact Below.refl _ _|refine below_reg ?_ _ _|refine below_alloc ?_ _|exact below_drewN ?_ _|assumption))⟩
  ·have hsum:(x+y).natAbs=y.natAbs-x.natAbs:=by
    rcases Bool.eq_false_or_eq_true (decide (x<0)) with hb|hb<;>rcases Bool.eq_false_or_eq_true (decide (y<0)) with hb2|hb2<;>rw [hb,hb2] at hs<;>simp at hb hb2 hs<;>omega
   have HC:=rless_any (decide (x<0)) (decide (y<0)) a b c d _ _ h1 h2
   obtain ⟨k,hk⟩:∃ k,k=cmpN ((x.natAbs:Nat):Int) ((y.natAbs:Nat):Int):=⟨_,rfl⟩
   rw [← hk] at HC
   have hk0:k<0:=by rw [hk];unfold cmpN;(repeat' split)<;>omega
   have HCH:=Lib.hid HC
   rw [hsum] at h
   have HM:=Lib.hid (rminus_any (decide (y<0)) (decide (x<0)) c d a b hi lo _ _ h2 h1 h (by omega) hy)
   have hsg:decide (x+y<0)=decide (y<0):=by
    rcases Bool.eq_false_or_eq_true (decide (x<0)) with hb|hb<;>rcases Bool.eq_false_or_eq_true (decide (y<0)) with hb2|hb2<;>rw [hb,hb2] at hs<;>simp at hb hb2 hs<;>rw [decide_eq_decide]<;>omega
   rw [hsg]
   clear HC hk h1 h2 h hx hy hlim hge hsg hsum
   obtain ⟨s,hsd⟩:∃ s,s=decide (x<0):=⟨_,rfl⟩
   obtain ⟨s',hsd'⟩:∃ s',s'=decide (y<0):=⟨_,rfl⟩
   rw [← hsd] at hsb HCH HM ⊢
   rw [← hsd'] at hsb HCH HM ⊢
   clear hsd hsd' hs
   cases s<;>cases s'<;>first|(exfalso;simp at hsb;done)|skip
   all_goals
    go_enter Tryz.func133,Tryz.ntmps133
    go_wp2_with (first|(go_at_call 128;(with_reducible refine cmono ?_ (HCH.out _));rotate_left;rintro e w' ⟨rfl,hbc0⟩;obtain ⟨⟨dc0,osc0⟩,rfl⟩:=regrown_of_below hbc0;clear hbc0)|(go_at_call 161;(with_reducible refine cmono ?_ (HM.out _));rotate_left;rintro e w' ⟨rfl,hbc1⟩;obtain ⟨⟨dc1,osc1⟩,rfl⟩:=regrown_of_below hbc1;clear hbc1)|((with_reducible refine wp_region_quiet_below ?_ ?_ ?_);kernel_rfl;kernel_rfl;(repeat (go_big_quiet_step (first|(go_at_call 128;(with_reducible refine Calls.regrown_of (HCH.out _)))|(go_at_call 161;(with_reducible refine Calls.regrown_of (HM.out _))))));refine wpQuiet_nil ?_;intro _ hw';obtain ⟨⟨dq,osq⟩,hw''⟩:=hw';subst hw''))
    first
     | refine bodyPost_ret (v:=.agg #[.bool true,.int .u64 (hi:Nat),.int .u64 (lo:Nat)]) (by simp [results,Tryz.results133,go_sem]) rfl ⟨rfl,(by repeat (first|exact Below.refl _ _|refine below_reg ?_ _ _|refine below_alloc ?_ _|exact below_drewN ?_ _|assumption))⟩
     | refine bodyPost_ret (v:=.agg #[.bool false,.int .u64 (hi:Nat),.int .u64 (lo:Nat)]) (by simp [results,Tryz.results133,go_sem]) rfl ⟨rfl,(by repeat (first|exact Below.refl _ _|refine below_reg ?_ _ _|refine below_alloc ?_ _|exact below_drewN ?_ _|assumption))⟩
end Go.Proofs.YtddbmpbihpkabaaGreat

namespace Go.Proofs.YtddbmpbihpkabaaGreat
open Go.RowKit
theorem dig_step (v b by_:Nat) (hb:b≤1) (hy:0<by_) :
  (by_≤2*(v % by_)+b→(2*v+b) / by_=2*(v / by_)+1∧(2*v+b) % by_=2*(v % by_)+b-by_) ∧
  (¬ by_≤2*(v % by_)+b→(2*v+b) / by_=2*(v / by_)∧(2*v+b) % by_=2*(v % by_)+b):=by
 have hd:=Nat.div_add_mod v by_
 have hl:=Nat.mod_lt v hy
 generalize v / by_=q at *
 generalize v % by_=r at *
 have e:2*v+b=by_*(2*q)+(2*r+b):=by
  rw [← hd,Nat.mul_left_comm];omega
 constructor
 ·intro h
  have e2:2*v+b=by_*(2*q+1)+(2*r+b-by_):=by
   rw [e,Nat.mul_add,Nat.mul_one];omega
  rw [e2]
  exact ⟨by rw [Nat.mul_add_div hy,Nat.div_eq_of_lt (by omega),Nat.add_zero],by rw [Nat.mul_add_mod,Nat.mod_eq_of_lt (by omega)]⟩
 ·intro h
  rw [e]
  exact ⟨by rw [Nat.mul_add_div hy,Nat.div_eq_of_lt (by omega),Nat.add_zero],by rw [Nat.mul_add_mod,Nat.mod_eq_of_lt (by omega)]⟩
theorem dig_next (m i:Nat):m / 2 ^ i=2*(m / 2 ^ (i+1))+m / 2 ^ i % 2:=by
 rw [Nat.pow_succ,← Nat.div_div_eq_div_mul]
 omega
open Go.Sort in
theorem regrown_regrown (W:World) (d d':Nat) (os os':Array Obj):grow (redrawn (grow (redrawn W d) os) d') os'=grow (redrawn W d') (os++os'):=by
 simp [grow,redrawn,Array.append_assoc]
theorem or_digit (V j:Nat):(V*2 ^ (j+1)) ||| 2 ^ j=V*2 ^ (j+1)+2 ^ j:=by
 have h:=Nat.two_pow_add_eq_or_of_lt (i:=j+1) (b:=2 ^ j) (by rw [Nat.pow_succ];have:=Nat.two_pow_pos j;omega) V
 rw [Nat.mul_comm V];exact h.symm
theorem digit_hi (p q V k:Nat) (hk:64≤k) (hk2:k≤127) (hp:p<18446744073709551616) (h:Two p q (V*2 ^ (k+1))) :
  p+2 ^ (k-64)<18446744073709551616∧bits .or .u64 (p:Int) (IntKind.u64.wrap (2 ^ (k-64)))=((p+2 ^ (k-64):Nat):Int)∧Two (p+2 ^ (k-64)) q ((2*V+1)*2 ^ k):=by
 obtain ⟨j,rfl⟩:∃ j,k=j+64:=⟨k-64,by omega⟩
 have hj:j+64-64=j:=by omega
 rw [hj]
 have e1:V*2 ^ (j+64+1)=V*2 ^ (j+1)*18446744073709551616:=by
  rw [Nat.mul_assoc,show (18446744073709551616:Nat)=2 ^ 64 from rfl,← Nat.pow_add,show j+64+1=j+1+64 by omega]
 obtain ⟨hp1,hq1⟩:=h
 rw [e1] at hp1 hq1
 rw [Nat.mul_div_cancel _ (by decide)] at hp1
 rw [Nat.mul_mod_left] at hq1
 have hlt:2 ^ j<18446744073709551616:=by
  have:=Nat.pow_lt_pow_right (a:=2) (by decide) (show j<64 by omega)
  exact this
 have e2:(2*V+1)*2 ^ (j+64)=(p+2 ^ j)*18446744073709551616:=by
  rw [hp1,Nat.pow_add,show (2:Nat) ^ 64=18446744073709551616 from rfl]
  generalize 18446744073709551616=W
  rw [← Nat.mul_assoc,Nat.pow_succ,Nat.mul_comm (2 ^ j) 2,← Nat.mul_assoc,Nat.mul_comm V 2,Nat.add_mul (2*V),Nat.one_mul]
 have hor:p ||| 2 ^ j=p+2 ^ j:=by rw [hp1];exact or_digit V j
 have hb:p+2 ^ j<18446744073709551616:=by
  rw [← hor];exact Nat.or_lt_two_pow (n:=64) hp hlt
 refine ⟨hb,?_,?_⟩
 ·have hw:IntKind.u64.wrap (2 ^ j)=((2 ^ j:Nat):Int):=by
   rw [show ((2:Int) ^ j)=((2 ^ j:Nat):Int) by simp]
   exact IntWalk.u64_in _ ⟨Int.natCast_nonneg _,by omega⟩
  rw [hw,u64_or_nat _ _ hp hlt,hor]
 ·rw [e2]
  refine ⟨?_,?_⟩
  ·rw [Nat.mul_div_cancel _ (by decide)]
  ·rw [Nat.mul_mod_left];exact hq1
theorem digit_lo (p q V k:Nat) (hk:k<64) (hq:q<18446744073709551616) (h:Two p q (V*2 ^ (k+1))) :
  q+2 ^ k<18446744073709551616∧bits .or .u64 (q:Int) (IntKind.u64.wrap (2 ^ k))=((q+2 ^ k:Nat):Int)∧Two p (q+2 ^ k) ((2*V+1)*2 ^ k):=by
 obtain ⟨hp1,hq1⟩:=h
 have e1:2 ^ (63-k)*2 ^ (k+1)=18446744073709551616:=by
  rw [← Nat.pow_add,show 63-k+(k+1)=64 by omega]
 have hlt:2 ^ k<18446744073709551616:=Nat.pow_lt_pow_right (a:=2) (by decide) hk
 have hq2:q=V % 2 ^ (63-k)*2 ^ (k+1):=by
  rw [hq1,← e1,Nat.mul_mod_mul_right]
 have hor:q ||| 2 ^ k=q+2 ^ k:=by rw [hq2];exact or_digit _ k
 have hb:q+2 ^ k<18446744073709551616:=by
  rw [← hor];exact Nat.or_lt_two_pow (n:=64) hq hlt
 refine ⟨hb,?_,?_⟩
 ·have hw:IntKind.u64.wrap (2 ^ k)=((2 ^ k:Nat):Int):=by
   rw [show ((2:Int) ^ k)=((2 ^ k:Nat):Int) by simp]
   exact IntWalk.u64_in _ ⟨Int.natCast_nonneg _,by omega⟩
  rw [hw,u64_or_nat _ _ hq hlt,hor]
 ·have e2:(2*V+1)*2 ^ k=p*18446744073709551616+(q+2 ^ k):=by
   have hd:=Nat.div_add_mod (V*2 ^ (k+1)) 18446744073709551616
   rw [← hp1,← hq1] at hd
   have e3:(2*V+1)*2 ^ k=V*2 ^ (k+1)+2 ^ k:=by
    rw [Nat.add_mul,Nat.one_mul,Nat.pow_succ,Nat.mul_comm (2 ^ k) 2,← Nat.mul_assoc,Nat.mul_comm V 2]
   rw [e3,← hd,Nat.mul_comm];omega
  rw [e2]
  exact ⟨(hi_of _ _ _ hb).symm,(lo_of _ _ _ hb).symm⟩
theorem digit_none (V k:Nat):2*V*2 ^ k=V*2 ^ (k+1):=by
 rw [Nat.pow_succ,Nat.mul_comm (2 ^ k) 2,← Nat.mul_assoc,Nat.mul_comm V 2]
end Go.Proofs.YtddbmpbihpkabaaGreat

namespace Go.Proofs.YtddbmpbihpkabaaGreat
open Go.RowKit Go.Sort
def DivRel (x:Bool) (a b m y:Nat) (w:World) (u i:Value) (wr:World):Prop :=
 ∃ (j t p q d:Nat) (os:Array Obj),j≤128∧t<y∧u=.int .u64 t∧i=.int .i64 ((j:Int)-1)∧Hid (t=m / 2 ^ j % y)∧Two p q (m / 2 ^ j / y*2 ^ j) ∧
   wr=grow (redrawn (((w.alloc (.cells #[.bool x,.int .u64 a,.int .u64 b] 188)).alloc (.cells #[.bool false,.int .u64 0,.int .u64 0] 188)).alloc (.cells #[.bool false,.int .u64 p,.int .u64 q] 188)) d) os
theorem bit_of (z k:Nat) (hz:z<18446744073709551616):bits .and .u64 ((z:Int) / 2 ^ k) 1=((z / 2 ^ k % 2:Nat):Int):=by
 have e:((z:Int) / 2 ^ k)=((z / 2 ^ k:Nat):Int):=by simp
 have hl:z / 2 ^ k≤z:=Nat.div_le_self _ _
 have h:=u64_and_nat (z / 2 ^ k) 1 (by omega) (by omega)
 rw [Nat.and_one_is_mod] at h
 rw [e]
 exact h
theorem bit_hi (m a k:Nat) (ha:a=m / 18446744073709551616) (hk:64≤k):a / 2 ^ (k-64) % 2=m / 2 ^ k % 2:=by
 rw [ha,Nat.div_div_eq_div_mul,show (18446744073709551616:Nat)=2 ^ 64 from rfl,← Nat.pow_add,show 64+(k-64)=k by omega]
theorem bit_lo (m b k:Nat) (hb:b=m % 18446744073709551616) (hk:k<64):b / 2 ^ k % 2=m / 2 ^ k % 2:=by
 have h1:m=2 ^ k*(2*2 ^ (63-k))*(m / 18446744073709551616)+b:=by
  have e:2 ^ k*(2*2 ^ (63-k))=18446744073709551616:=by
   rw [show 2*2 ^ (63-k)=2 ^ (63-k+1) by rw [Nat.pow_succ,Nat.mul_comm],← Nat.pow_add,show k+(63-k+1)=64 by omega]
  rw [e,hb];exact (Nat.div_add_mod _ _).symm
 generalize m / 18446744073709551616=z at h1
 subst h1
 rw [Nat.mul_assoc (2 ^ k),Nat.mul_add_div (Nat.two_pow_pos _),Nat.mul_assoc 2,Nat.mul_add_mod]
theorem ret_u {k:IntKind} {a b:Int} (h:a=b):Value.int k a=.int k b:=by rw [h]
theorem regrown_none (w:World):grow (redrawn w w.drawn) #[]=w:=by simp [grow,redrawn]
theorem quot_le (m k y:Nat):m / 2 ^ k / y*2 ^ k≤m :=
 Nat.le_trans (Nat.mul_le_mul_right _ (Nat.div_le_self _ _)) (Nat.div_mul_le_self _ _)
theorem div_small (m:Nat) (hm:m<9223372036854775807*18446744073709551616):m / 2 ^ 128=0:=Nat.div_eq_of_lt (by omega)
set_option maxHeartbeats 8000000 in
theorem rdivided_any (x:Bool) (a b m y hi lo r:Nat) (h1:Two a b m) (h:Two hi lo (m / y)) (hr:r=m % y) (hm:m<9223372036854775807*18446744073709551616) (hy:0<y) (hY:y≤9223372036854775808) (w:World) :
  Calls Tryz.prog 160 #[.agg #[.bool x,.int .u64 a,.int .u64 b],.int .u64 y] w fun e w' =>
   e=.returned (.tuple #[.agg #[.bool false,.int .u64 hi,.int .u64 lo],.int .u64 r])∧Below w.heap.size w w':=by
 go_enter Tryz.func160,Tryz.ntmps160
 go_wp2_with (first|((with_reducible refine wp_region_quiet_below ?_ ?_ ?_);kernel_rfl;kernel_rfl;(repeat (go_big_quiet_step (fail)));refine wpQuiet_nil ?_;intro _ hw';obtain ⟨⟨dq,osq⟩,hw''⟩:=hw';subst hw''))
 go_loopw [7,8] (DivRel x a b m y w) (fun _ i _=>(intOf i+1).toNat)
 case atStart =>
  refine ⟨128,0,0,0,w.drawn,#[],by omega,hy,rfl,rfl,Lib.hid ?_,?_,?_⟩
  ·rw [div_small m hm];exact (Nat.zero_mod _).symm
  ·rw [div_small m hm];exact ⟨by simp,by simp⟩
  ·exact (regrown_none _).symm
 case round =>
  obtain ⟨j,t,p,q,d,os,hj,ht,rfl,rfl,htd,hpq,rfl⟩:=hrel
  rcases j with _|k
  ·simp only [Nat.pow_zero,Nat.div_one,Nat.mul_one] at htd hpq
   have e1:=h.1.trans hpq.1.symm
   have e2:=h.2.trans hpq.2.symm
   have e3:=hr.trans htd.out.symm
   subst e1 e2 e3
   go_wp2_with (first|((with_reducible refine wp_region_quiet_below ?_ ?_ ?_);kernel_rfl;kernel_rfl;(repeat (go_big_quiet_step (fail)));refine wpQuiet_nil ?_;intro _ hw';obtain ⟨⟨dq,osq⟩,hw''⟩:=hw';subst hw''))
   refine bodyPost_ret (v:=.tuple #[.agg #[.bool false,.int .u64 hi,.int .u64 lo],.int .u64 r]) (by simp [results,Tryz.results160,go_sem]) rfl ⟨rfl,(by repeat (first|exact Below.refl _ _|refine below_reg ?_ _ _|refine below_alloc ?_ _|exact below_drewN ?_ _|assumption))⟩
  ·have e:((k+1:Nat):Int)-1=(k:Int):=by omega
   rw [e]
   have hkb:(k:Int)≤127:=by omega
   obtain ⟨β,hβ⟩:∃ β,β=m / 2 ^ k % 2:=⟨_,rfl⟩
   have hβ1:β≤1:=by omega
   obtain ⟨T,hT⟩:∃ T,T=2*t+β:=⟨_,rfl⟩
   have RT:2*(t:Int)+(β:Int)=(T:Int):=by omega
   have hTb:T<18446744073709551616:=by omega
   obtain ⟨s1,s2⟩:=dig_step (m / 2 ^ (k+1)) β y hβ1 hy
   rw [hβ,← dig_next m k,← htd.out,← hβ,← hT] at s1 s2
   by_cases hk:(64:Int)≤(k:Int)
   ·have RB:bits .and .u64 ((a:Int) / 2 ^ (k-64)) 1=(β:Int):=by
     rw [bit_of a _ (by have:=h1.hi _ hm;omega),bit_hi m a k h1.1 (by omega),← hβ]
    by_cases hle:y≤T
    ·obtain ⟨u1,u2⟩:=s1 hle
     have hle2:(y:Int)≤(T:Int):=by omega
     have U1:=Lib.hid u1
     have U2:=Lib.hid u2
     clear s1 s2 u1 u2 hβ hT
     have V1:=U1.out
     obtain ⟨g1,g2,g3⟩:=digit_hi p q _ k (by omega) (by omega) (by have:=hpq.hi _ (Nat.lt_of_le_of_lt (quot_le m (k+1) y) hm);omega) hpq
     rw [← V1] at g3
     clear V1
     go_wp2_with (first|((with_reducible refine wp_region_quiet_below ?_ ?_ ?_);kernel_rfl;kernel_rfl;(repeat (go_big_quiet_step (fail)));refine wpQuiet_nil ?_;intro _ hw';obtain ⟨⟨dq,osq⟩,hw''⟩:=hw';subst hw'')|((with_reducible refine wp_region_tail_below 7 ?_ ?_ ?_);kernel_rfl;kernel_rfl;simp only [List.take_succ_cons,List.take_zero,List.drop_succ_cons,List.drop_zero];(repeat (go_big_quiet_step (fail)));refine wpQuiet_nil ?_;intro _ hw';obtain ⟨⟨dq,osq⟩,hw''⟩:=hw';subst hw''))
     rw [show ((p:Int)+2 ^ (k-64))=((p+2 ^ (k-64):Nat):Int) by simp]
     refine ⟨⟨k,T-y,p+2 ^ (k-64),q,_,_,by omega,by omega,ret_u (by omega),rfl,Lib.hid U2.out.symm,g3,regrown_regrown _ _ _ _ _⟩,by show (((k:Int)-1)+1).toNat<((k:Int)+1).toNat;omega⟩
    ·obtain ⟨u1,u2⟩:=s2 hle
     have U1:=Lib.hid u1
     have U2:=Lib.hid u2
     clear s1 s2 u1 u2 hβ hT
     have V1:=U1.out
     rw [← digit_none,← V1] at hpq
     clear V1
     go_wp2_with (first|((with_reducible refine wp_region_quiet_below ?_ ?_ ?_);kernel_rfl;kernel_rfl;(repeat (go_big_quiet_step (fail)));refine wpQuiet_nil ?_;intro _ hw';obtain ⟨⟨dq,osq⟩,hw''⟩:=hw';subst hw'')|((with_reducible refine wp_region_tail_below 7 ?_ ?_ ?_);kernel_rfl;kernel_rfl;simp only [List.take_succ_cons,List.take_zero,List.drop_succ_cons,List.drop_zero];(repeat (go_big_quiet_step (fail)));refine wpQuiet_nil ?_;intro _ hw';obtain ⟨⟨dq,osq⟩,hw''⟩:=hw';subst hw''))
     refine ⟨⟨k,T,p,q,_,_,by omega,by omega,rfl,rfl,Lib.hid U2.out.symm,hpq,rfl⟩,by show (((k:Int)-1)+1).toNat<((k:Int)+1).toNat;omega⟩
   ·have RB:bits .and .u64 ((b:Int) / 2 ^ k) 1=(β:Int):=by
     rw [bit_of b _ h1.lo,bit_lo m b k h1.2 (by omega),← hβ]
    by_cases hle:y≤T
    ·obtain ⟨u1,u2⟩:=s1 hle
     have hle2:(y:Int)≤(T:Int):=by omega
     have U1:=Lib.hid u1
     have U2:=Lib.hid u2
     clear s1 s2 u1 u2 hβ hT
     have V1:=U1.out
     obtain ⟨g1,g2,g3⟩:=digit_lo p q _ k (by omega) hpq.lo hpq
     rw [← V1] at g3
     clear V1
     go_wp2_with (first|((with_reducible refine wp_region_quiet_below ?_ ?_ ?_);kernel_rfl;kernel_rfl;(repeat (go_big_quiet_step (fail)));refine wpQuiet_nil ?_;intro _ hw';obtain ⟨⟨dq,osq⟩,hw''⟩:=hw';subst hw'')|((with_reducible refine wp_region_tail_below 6 ?_ ?_ ?_);kernel_rfl;kernel_rfl;simp only [List.take_succ_cons,List.take_zero,List.drop_succ_cons,List.drop_zero];(repeat (go_big_quiet_step (fail)));refine wpQuiet_nil ?_;intro _ hw';obtain ⟨⟨dq,osq⟩,hw''⟩:=hw';subst hw''))
     rw [show ((q:Int)+2 ^ k)=((q+2 ^ k:Nat):Int) by simp]
     refine ⟨⟨k,T-y,p,q+2 ^ k,_,_,by omega,by omega,ret_u (by omega),rfl,Lib.hid U2.out.symm,g3,regrown_regrown _ _ _ _ _⟩,by show (((k:Int)-1)+1).toNat<((k:Int)+1).toNat;omega⟩
    ·obtain ⟨u1,u2⟩:=s2 hle
     have U1:=Lib.hid u1
     have U2:=Lib.hid u2
     clear s1 s2 u1 u2 hβ hT
     have V1:=U1.out
     rw [← digit_none,← V1] at hpq
     clear V1
     go_wp2_with (first|((with_reducible refine wp_region_quiet_below ?_ ?_ ?_);kernel_rfl;kernel_rfl;(repeat (go_big_quiet_step (fail)));refine wpQuiet_nil ?_;intro _ hw';obtain ⟨⟨dq,osq⟩,hw''⟩:=hw';subst hw'')|((with_reducible refine wp_region_tail_below 6 ?_ ?_ ?_);kernel_rfl;kernel_rfl;simp only [List.take_succ_cons,List.take_zero,List.drop_succ_cons,List.drop_zero];(repeat (go_big_quiet_step (fail)));refine wpQuiet_nil ?_;intro _ hw';obtain ⟨⟨dq,osq⟩,hw''⟩:=hw';subst hw''))
     refine ⟨⟨k,T,p,q,_,_,by omega,by omega,rfl,rfl,Lib.hid U2.out.symm,hpq,rfl⟩,by show (((k:Int)-1)+1).toNat<((k:Int)+1).toNat;omega⟩
end Go.Proofs.YtddbmpbihpkabaaGreat
