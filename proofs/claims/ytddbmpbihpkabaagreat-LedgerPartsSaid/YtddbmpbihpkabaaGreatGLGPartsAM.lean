import Derived.Test.YtddbmpbihpkabaaGreatGLGPartsAA
import Derived.Test.YtddbmpbihpkabaaGreatGLGPartsAL
import Derived.Test.YtddbmpbihpkabaaGreatChecked
import Derived.Lib.ItoaNum
import Derived.Deep.DeepCutAuto
import Derived.Deep.CutBlock
import Derived.Laws.BitsAllLaws
import Derived.WalkKit
set_option linter.all false
namespace Go.Proofs.YtddbmpbihpkabaaGreat
open Go.RowKit Go.Sort
theorem lz_norm (y:Nat) (h0:0<y) (h1:y<18446744073709551616):Lib.bitLen y≤64∧1≤Lib.bitLen y∧9223372036854775808≤y*2 ^ (64-Lib.bitLen y)∧y*2 ^ (64-Lib.bitLen y)<18446744073709551616:=by
 have hl:Lib.bitLen y≤64:=Lib.bitLen_le y 64 (by omega) (by omega)
 obtain ⟨a,b,c⟩:=Lib.bitLenAux_bounds 64 y (by omega) (by omega)
 change 1≤Lib.bitLen y at a
 change 2 ^ (Lib.bitLen y-1)≤y at b
 change y<2 ^ Lib.bitLen y at c
 refine ⟨hl,a,?_,?_⟩
 ·have h:2 ^ (Lib.bitLen y-1)*2 ^ (64-Lib.bitLen y)≤y*2 ^ (64-Lib.bitLen y):=Nat.mul_le_mul_right _ b
  rw [← Nat.pow_add,show Lib.bitLen y-1+(64-Lib.bitLen y)=63 by omega] at h
  exact h
 ·have h:y*2 ^ (64-Lib.bitLen y)<2 ^ Lib.bitLen y*2 ^ (64-Lib.bitLen y):=Nat.mul_lt_mul_of_pos_right c (Nat.two_pow_pos _)
  rw [← Nat.pow_add,show Lib.bitLen y+(64-Lib.bitLen y)=64 by omega] at h
  exact h
theorem u64_mask32 (a:Nat) (ha:a<18446744073709551616):bits .and .u64 (a:Int) 4294967295=((a % 4294967296:Nat):Int):=by
 have h:=u64_and_nat a 4294967295 ha (by omega)
 have h2:a &&& 4294967295=a % 4294967296:=Nat.and_two_pow_sub_one_eq_mod a 32
 rw [h2] at h
 exact h
theorem div64_small (lo y:Nat) (w:World) (hy:0<y) (hlo:lo<18446744073709551616) :
  Calls Tryz.prog 90 #[.int .u64 0,.int .u64 lo,.int .u64 y] w fun e w'=>e=.returned (.tuple #[.int .u64 (lo / y:Nat),.int .u64 (lo % y:Nat)])∧Below w.heap.size w w':=by
 have h0:((y:Int) == 0)=false:=by simp;omega
 have hq:lo / y≤lo:=Nat.div_le_self _ _
 have HW:Hid (IntKind.u64.wrap ((lo:Int) / (y:Int))=((lo / y:Nat):Int)):=Lib.hid (by rw [IntKind.wrap_u64,← Int.natCast_ediv];exact Int.emod_eq_of_lt (Int.natCast_nonneg _) (by omega))
 clear hq
 go_enter Tryz.func90,Tryz.ntmps90
 go_wp2_with (first|((with_reducible refine wp_region_quiet_below ?_ ?_ ?_);kernel_rfl;kernel_rfl;(repeat (go_big_quiet_step (fail)));refine wpQuiet_nil ?_;intro _ hw';obtain ⟨⟨dq,osq⟩,hw''⟩:=hw';subst hw''))
 go_ret2
 refine ⟨ret_of ?_,(by repeat (first|exact Below.refl _ _|refine below_reg ?_ _ _|refine below_alloc ?_ _|exact below_drewN ?_ _|assumption))⟩
 show Value.tuple #[.int .u64 (IntKind.u64.wrap ((lo:Int) / (y:Int))),.int .u64 ((lo:Int) % (y:Int))]=_
 rw [HW.out]
 rfl
theorem div64_great (hi lo y:Nat) (w:World) (h0:0<hi) (hy:hi<y) (hY:y<18446744073709551616) (hlo:lo<18446744073709551616) :
  Calls Tryz.prog 90 #[.int .u64 hi,.int .u64 lo,.int .u64 y] w fun e w'=>e=.returned (.tuple #[.int .u64 ((hi*18446744073709551616+lo) / y:Nat),.int .u64 ((hi*18446744073709551616+lo) % y:Nat)])∧Below w.heap.size w w':=by
 have h0:((y:Int) == 0)=false:=by simp;omega
 have h1:((hi:Int) == 0)=false:=by simp;omega
 have hle:¬ (y≤hi):=by omega
 obtain ⟨n1,n2,n3,n4⟩:=lz_norm y (by omega) hY
 obtain ⟨s,hs⟩:∃ s,s=64-Lib.bitLen y:=⟨_,rfl⟩
 rw [← hs] at n3 n4
 have hs64:s<64:=by omega
 have E:(64:Int)-(Lib.bitLen (y:Int).toNat:Int)=(s:Int):=by rw [Int.toNat_natCast];omega
 have HL:=Tryz.bits_LeadingZeros64 y
 rw [E] at HL
 have HQ:=Lib.hid HL
 clear HL E hs
 obtain ⟨Y,hYd⟩:∃ Y,Y=y*2 ^ s:=⟨_,rfl⟩
 have R1:IntKind.u64.wrap ((y:Int)*2 ^ s)=(Y:Int):=by
  have e:((y:Int)*2 ^ s)=((y*2 ^ s:Nat):Int):=by simp
  rw [e,IntKind.wrap_u64,← hYd];rw [← hYd] at n4;omega
 rw [← hYd] at n3 n4
 have HYd:=Lib.hid hYd
 clear hYd
 obtain ⟨y1,hy1d⟩:∃ y1,y1=Y / 4294967296:=⟨_,rfl⟩
 obtain ⟨y0,hy0d⟩:∃ y0,y0=Y % 4294967296:=⟨_,rfl⟩
 obtain ⟨k1,k2,k3⟩:=kn_shift hi lo y s hs64 hy hlo
 rw [← HYd.out] at k3
 obtain ⟨u,hud⟩:∃ u,u=hi*2 ^ s+lo / 2 ^ (64-s):=⟨_,rfl⟩
 obtain ⟨v,hvd⟩:∃ v,v=(lo*2 ^ s) % 18446744073709551616:=⟨_,rfl⟩
 obtain ⟨v1,hv1d⟩:∃ v1,v1=v / 4294967296:=⟨_,rfl⟩
 obtain ⟨v0,hv0d⟩:∃ v0,v0=v % 4294967296:=⟨_,rfl⟩
 have hu:u*18446744073709551616+v=(hi*18446744073709551616+lo)*2 ^ s∧u<Y:=by
  rw [hvd,hud];exact ⟨k2,k3⟩
 have R2:(Y:Int) / 4294967296=(y1:Int):=by omega
 have R3:bits .and .u64 (Y:Int) 4294967295=(y0:Int):=(u64_mask32 Y n4).trans (by rw [hy0d])
 have R4:bits .or .u64 (IntKind.u64.wrap ((hi:Int)*2 ^ s)) ((lo:Int) / 2 ^ (64-s))=(u:Int):=by
  have e1:((hi:Int)*2 ^ s)=((hi*2 ^ s:Nat):Int):=by simp
  have e2:((lo:Int) / 2 ^ (64-s))=((lo / 2 ^ (64-s):Nat):Int):=by simp
  have hl:lo / 2 ^ (64-s)≤lo:=Nat.div_le_self _ _
  have hx:hi*2 ^ s<18446744073709551616:=Nat.lt_of_le_of_lt (Nat.le_add_right _ _) (Nat.lt_trans k3 n4)
  have e3:IntKind.u64.wrap ((hi*2 ^ s:Nat):Int)=((hi*2 ^ s:Nat):Int):=by
   generalize hi*2 ^ s=z at hx;rw [IntKind.wrap_u64];omega
  rw [e1,e2,e3,bits_or_u64_nat _ _ hx (by omega),k1,← hud]
 have R5:IntKind.u64.wrap ((lo:Int)*2 ^ s)=(v:Int):=by
  have e:((lo:Int)*2 ^ s)=((lo*2 ^ s:Nat):Int):=by simp
  rw [e,IntKind.wrap_u64];omega
 have R6:(v:Int) / 4294967296=(v1:Int):=by omega
 have R7:bits .and .u64 (v:Int) 4294967295=(v0:Int):=(u64_mask32 v (by omega)).trans (by rw [hv0d])
 obtain ⟨hu1,hu2⟩:=hu
 have hy1p:0<y1:=by omega
 have hy1b:y1<4294967296:=by omega
 have hy0b:y0<4294967296:=by omega
 have hv1b:v1<4294967296:=by omega
 have hv0b:v0<4294967296:=by omega
 have HY:Hid (Y=y1*4294967296+y0):=Lib.hid (by omega)
 have HV:Hid (v=v1*4294967296+v0):=Lib.hid (by omega)
 have HU:=Lib.hid hu1
 obtain ⟨q1,hq1d⟩:∃ q1,q1=(u*4294967296+v1) / Y:=⟨_,rfl⟩
 have HQ1:=Lib.hid hq1d
 have hub:u<18446744073709551616:=by omega
 have hdd:=Nat.div_le_self u y1
 have R8:IntKind.u64.wrap ((u:Int) / (y1:Int))=((u / y1:Nat):Int):=by
  rw [IntKind.wrap_u64,← Int.natCast_ediv];exact Int.emod_eq_of_lt (Int.natCast_nonneg _) (by omega)
 clear k1 k2 k3 hu1 hud hvd hv1d hv0d hy1d hy0d hq1d hdd
 go_enter Tryz.func90,Tryz.ntmps90
 go_upto_block 0 with (go_at_call 124;refine (HQ.out _ (by omega) (by omega)).mono ?_;rintro e w' ⟨rfl,rfl⟩)
 go_cut [15] (fun s15 wc=>s15=.int .u64 (q1:Nat)∧wc=w')
 case first =>
  go_wp2
  go_loop [15,16] (fun a b=>∃ q r:Nat,a=.int .u64 q∧b=.int .u64 r∧Hid (u=q*y1+r)∧q1≤q∧r<4294967296∧q<18446744073709551616) (fun a _=>(intOf a).toNat)
  case atStart =>
   refine ⟨u / y1,u % y1,?_,?_,Lib.hid ?_,?_,?_,?_⟩
   ·simp
   ·rw [kn_rem u y1 hub]
   ·rw [Nat.mul_comm];exact (Nat.div_add_mod u y1).symm
   ·rw [HQ1.out,HY.out];exact kn_start y1 y0 u v1 hy1p hv1b
   ·have:=Nat.mod_lt u hy1p;omega
   ·have:=Nat.div_le_self u y1;omega
  case round =>
   obtain ⟨q,r,rfl,rfl,hqr,hq1,hr,hqb⟩:=hrel
   have hYp:0<Y:=by omega
   by_cases hbig:(4294967296:Int)≤(q:Int)
   ·have hlt:=kn_next Y y1 y0 u v1 q r HY.out hYp hu2 hv1b hqr.out (.inl (by omega))
    rw [← HQ1.out] at hlt
    have hdn:=Lib.hid (kn_down y1 u q r (by omega) hqr.out)
    by_cases hrb:(4294967296:Int)≤(r:Int)+(y1:Int)
    ·have hfin:q-1=q1:=by
      rw [HQ1.out]
      refine kn_done Y _ (q-1) hYp ?_ (by rw [← HQ1.out];omega)
      rw [HY.out]
      exact kn_break y1 y0 u v1 (q-1) (r+y1) hdn.out (by rw [← HY.out];exact hu2) hy0b (by omega)
     have Hfin:=Lib.hid hfin
     clear hfin
     go_wp2
     go_meet
     case rel=>exact ⟨by rw [← Hfin.out];congr 1;omega,rfl⟩
    ·go_wp2
     refine ⟨⟨q-1,r+y1,by congr 1;omega,by congr 1,hdn,by omega,by omega,by omega⟩,?_⟩
     show ((q:Int)-1).toNat<(q:Int).toNat
     omega
   ·obtain ⟨P,hP⟩:∃ P,P=q*y0:=⟨_,rfl⟩
    have hPb:P≤4294967295*4294967295:=by rw [hP];exact Nat.mul_le_mul (by omega) (by omega)
    have RP:IntKind.u64.wrap ((q:Int)*(y0:Int))=(P:Int):=by
     have e:((q:Int)*(y0:Int))=((q*y0:Nat):Int):=by simp
     rw [e,IntKind.wrap_u64,← hP];omega
    have HP:=Lib.hid hP
    clear hP hPb
    by_cases ht:(4294967296:Int)*(r:Int)+(v1:Int)<(P:Int)
    ·have hlt:=kn_next Y y1 y0 u v1 q r HY.out hYp hu2 hv1b hqr.out (.inr (by rw [← HP.out];omega))
     rw [← HQ1.out] at hlt
     have hdn:=Lib.hid (kn_down y1 u q r (by omega) hqr.out)
     by_cases hrb:(4294967296:Int)≤(r:Int)+(y1:Int)
     ·have hfin:q-1=q1:=by
       rw [HQ1.out]
       refine kn_done Y _ (q-1) hYp ?_ (by rw [← HQ1.out];omega)
       rw [HY.out]
       exact kn_break y1 y0 u v1 (q-1) (r+y1) hdn.out (by rw [← HY.out];exact hu2) hy0b (by omega)
      have Hfin:=Lib.hid hfin
      clear hfin
      go_wp2
      go_meet
      case rel=>exact ⟨by rw [← Hfin.out];congr 1;omega,rfl⟩
     ·go_wp2
      refine ⟨⟨q-1,r+y1,by congr 1;omega,by congr 1,hdn,by omega,by omega,by omega⟩,?_⟩
      show ((q:Int)-1).toNat<(q:Int).toNat
      omega
    ·have hfin:q=q1:=by
      rw [HQ1.out]
      exact kn_exit Y y1 y0 u v1 q r HY.out hYp hqr.out (by rw [← HQ1.out];exact hq1) (by rw [← HP.out];omega)
     have Hfin:=Lib.hid hfin
     clear hfin
     go_wp2
     go_meet
     case rel=>exact ⟨by rw [← Hfin.out],rfl⟩
 case rest =>
  obtain ⟨rfl,rfl⟩:=hcut
  obtain ⟨m,hmd⟩:∃ m,m=(u*4294967296+v1) % Y:=⟨_,rfl⟩
  have hYp:0<Y:=by omega
  have hm2:m<Y:=by rw [hmd];exact Nat.mod_lt _ hYp
  have hmb:m<18446744073709551616:=by omega
  have R9:IntKind.u64.wrap (IntKind.u64.wrap (IntKind.u64.wrap ((u:Int)*4294967296)+(v1:Int))-IntKind.u64.wrap ((q1:Int)*(Y:Int)))=(m:Int):=by
   rw [hmd];exact kn_left u v1 q1 Y HQ1.out hYp n4
  have HM:=Lib.hid hmd
  have hdm:=Nat.div_le_self m y1
  have R10:IntKind.u64.wrap ((m:Int) / (y1:Int))=((m / y1:Nat):Int):=by
   rw [IntKind.wrap_u64,← Int.natCast_ediv];exact Int.emod_eq_of_lt (Int.natCast_nonneg _) (by omega)
  obtain ⟨q2,hq2d⟩:∃ q2,q2=(m*4294967296+v0) / Y:=⟨_,rfl⟩
  have HQ2:=Lib.hid hq2d
  obtain ⟨x,hxd⟩:∃ x,x=(m*4294967296+v0) % Y:=⟨_,rfl⟩
  have R11:IntKind.u64.wrap (IntKind.u64.wrap (IntKind.u64.wrap ((m:Int)*4294967296)+(v0:Int))-IntKind.u64.wrap ((q2:Int)*(Y:Int)))=(x:Int):=by
   rw [hxd];exact kn_left m v0 q2 Y hq2d hYp n4
  have hq1b:=kn_less Y u v1 hu2 hv1b
  rw [← HQ1.out] at hq1b
  have hq2b:=kn_less Y m v0 hm2 hv0b
  rw [← HQ2.out] at hq2b
  have HX:=Lib.hid hxd
  clear hmd hq2d hxd hdm
  obtain ⟨wd,hwd⟩:∃ wd,wd=wc:=⟨_,rfl⟩
  subst hwd
  go_upto_block 2 with fail
  go_cut [18] (fun s18 wc=>s18=.int .u64 (q2:Nat)∧wc=wd)
  case first =>
   go_wp2
   go_loop [18,16] (fun a b=>∃ q r:Nat,a=.int .u64 q∧b=.int .u64 r∧Hid (m=q*y1+r)∧q2≤q∧r<4294967296∧q<18446744073709551616) (fun a _=>(intOf a).toNat)
   case atStart =>
    refine ⟨m / y1,m % y1,?_,?_,Lib.hid ?_,?_,?_,?_⟩
    ·simp
    ·rw [kn_rem m y1 hmb]
    ·rw [Nat.mul_comm];exact (Nat.div_add_mod m y1).symm
    ·rw [HQ2.out,HY.out];exact kn_start y1 y0 m v0 hy1p hv0b
    ·have:=Nat.mod_lt m hy1p;omega
    ·have:=Nat.div_le_self m y1;omega
   case round =>
    obtain ⟨q,r,rfl,rfl,hqr,hq2,hr,hqb⟩:=hrel
    have hYp:0<Y:=by omega
    by_cases hbig:(4294967296:Int)≤(q:Int)
    ·have hlt:=kn_next Y y1 y0 m v0 q r HY.out hYp hm2 hv0b hqr.out (.inl (by omega))
     rw [← HQ2.out] at hlt
     have hdn:=Lib.hid (kn_down y1 m q r (by omega) hqr.out)
     by_cases hrb:(4294967296:Int)≤(r:Int)+(y1:Int)
     ·have hfin:q-1=q2:=by
       rw [HQ2.out]
       refine kn_done Y _ (q-1) hYp ?_ (by rw [← HQ2.out];omega)
       rw [HY.out]
       exact kn_break y1 y0 m v0 (q-1) (r+y1) hdn.out (by rw [← HY.out];exact hm2) hy0b (by omega)
      have Hfin:=Lib.hid hfin
      clear hfin
      go_wp2
      go_meet
      case rel=>exact ⟨by rw [← Hfin.out];congr 1;omega,rfl⟩
     ·go_wp2
      refine ⟨⟨q-1,r+y1,by congr 1;omega,by congr 1,hdn,by omega,by omega,by omega⟩,?_⟩
      show ((q:Int)-1).toNat<(q:Int).toNat
      omega
    ·obtain ⟨P,hP⟩:∃ P,P=q*y0:=⟨_,rfl⟩
     have hPb:P≤4294967295*4294967295:=by rw [hP];exact Nat.mul_le_mul (by omega) (by omega)
     have RP:IntKind.u64.wrap ((q:Int)*(y0:Int))=(P:Int):=by
      have e:((q:Int)*(y0:Int))=((q*y0:Nat):Int):=by simp
      rw [e,IntKind.wrap_u64,← hP];omega
     have HP:=Lib.hid hP
     clear hP hPb
     by_cases ht:(4294967296:Int)*(r:Int)+(v0:Int)<(P:Int)
     ·have hlt:=kn_next Y y1 y0 m v0 q r HY.out hYp hm2 hv0b hqr.out (.inr (by rw [← HP.out];omega))
      rw [← HQ2.out] at hlt
      have hdn:=Lib.hid (kn_down y1 m q r (by omega) hqr.out)
      by_cases hrb:(4294967296:Int)≤(r:Int)+(y1:Int)
      ·have hfin:q-1=q2:=by
        rw [HQ2.out]
        refine kn_done Y _ (q-1) hYp ?_ (by rw [← HQ2.out];omega)
        rw [HY.out]
        exact kn_break y1 y0 m v0 (q-1) (r+y1) hdn.out (by rw [← HY.out];exact hm2) hy0b (by omega)
       have Hfin:=Lib.hid hfin
       clear hfin
       go_wp2
       go_meet
       case rel=>exact ⟨by rw [← Hfin.out];congr 1;omega,rfl⟩
      ·go_wp2
       refine ⟨⟨q-1,r+y1,by congr 1;omega,by congr 1,hdn,by omega,by omega,by omega⟩,?_⟩
       show ((q:Int)-1).toNat<(q:Int).toNat
       omega
     ·have hfin:q=q2:=by
       rw [HQ2.out]
       exact kn_exit Y y1 y0 m v0 q r HY.out hYp hqr.out (by rw [← HQ2.out];exact hq2) (by rw [← HP.out];omega)
      have Hfin:=Lib.hid hfin
      clear hfin
      go_wp2
      go_meet
      case rel=>exact ⟨by rw [← Hfin.out],rfl⟩
  case rest =>
   obtain ⟨rfl,rfl⟩:=hcut
   go_wp2
   go_ret2
   obtain ⟨f1,f2⟩:=kn_fin (hi*18446744073709551616+lo) y Y u v v1 v0 m q1 q2 x s HU.out HV.out HYd.out hYp HQ1.out HM.out HQ2.out HX.out
   refine ⟨ret_of ?_,Below.refl _ _⟩
   show Value.tuple #[.int .u64 ((q1:Int)*4294967296+(q2:Int)),.int .u64 ((x:Int) / 2 ^ s)]=_
   rw [← f1,← f2]
   simp
theorem div64_any (hi lo y:Nat) (w:World) (hy:hi<y) (hY:y<18446744073709551616) (hlo:lo<18446744073709551616) :
  Calls Tryz.prog 90 #[.int .u64 hi,.int .u64 lo,.int .u64 y] w fun e w'=>e=.returned (.tuple #[.int .u64 ((hi*18446744073709551616+lo) / y:Nat),.int .u64 ((hi*18446744073709551616+lo) % y:Nat)])∧Below w.heap.size w w':=by
 by_cases h:hi=0
 ·subst h
  have h:=div64_small lo y w hy hlo
  simp only [Nat.zero_mul,Nat.zero_add]
  exact h
 ·exact div64_great hi lo y w (by omega) hy hY hlo
end Go.Proofs.YtddbmpbihpkabaaGreat

namespace Go.Proofs.YtddbmpbihpkabaaGreat
open Go.RowKit Go.Sort
theorem mul64_any (x y:Nat) (w:World) (hx:x<18446744073709551616) (hy:y<18446744073709551616) :
  Calls Tryz.prog 112 #[.int .u64 x,.int .u64 y] w fun e w'=>e=.returned (.tuple #[.int .u64 (x*y / 18446744073709551616:Nat),.int .u64 (x*y % 18446744073709551616:Nat)])∧Below w.heap.size w w' :=
 (Tryz.bits_Mul64 x y hx hy w).mono fun e w' ⟨he,hw⟩=>⟨he,by rw [hw];exact Below.refl _ _⟩
theorem over_any (x:Bool) (a b y:Nat) (w:World) (ha:a<18446744073709551616) (hb:b<18446744073709551616) (hy:0<y) (hY:y<18446744073709551616) :
  Calls Tryz.prog 152 #[.agg #[.bool x,.int .u64 a,.int .u64 b],.int .u64 y] w fun e w' =>
   e=.returned (.tuple #[.agg #[.bool x,.int .u64 ((a*18446744073709551616+b) / y / 18446744073709551616:Nat),.int .u64 ((a*18446744073709551616+b) / y % 18446744073709551616:Nat)],.int .u64 ((a*18446744073709551616+b) % y:Nat)])∧Below w.heap.size w w':=by
 have h0:((y:Int) == 0)=false:=by simp;omega
 have hlt:=Nat.mod_lt a hy
 have hq:a / y≤a:=Nat.div_le_self _ _
 obtain ⟨e1,e2⟩:=kn_two 18446744073709551616 y a b hy
 have HW:IntKind.u64.wrap ((a:Int) / (y:Int))=((a / y:Nat):Int):=by
  rw [IntKind.wrap_u64,← Int.natCast_ediv];exact Int.emod_eq_of_lt (Int.natCast_nonneg _) (by omega)
 have HR:(a:Int) % (y:Int)=((a % y:Nat):Int):=(Int.natCast_emod _ _).symm
 generalize a / y=q at *
 generalize a % y=r at *
 have hl:(r*18446744073709551616+b) / y<18446744073709551616:=by
  rw [Nat.div_lt_iff_lt_mul hy]
  have:(r+1)*18446744073709551616≤y*18446744073709551616:=Nat.mul_le_mul_right _ hlt
  rw [Nat.mul_comm 18446744073709551616 y];omega
 have HD:=Lib.hid (div64_any r b y)
 obtain ⟨l,hld⟩:∃ l,l=(r*18446744073709551616+b) / y:=⟨_,rfl⟩
 obtain ⟨z,hzd⟩:∃ z,z=(r*18446744073709551616+b) % y:=⟨_,rfl⟩
 have HE:=HD.out
 rw [← hld,← hzd] at HE
 have HF:=Lib.hid HE
 rw [← hld] at hl e1
 rw [← hzd] at e2
 rw [e1,e2]
 have f1:(q*18446744073709551616+l) / 18446744073709551616=q:=hi_of _ q l hl
 have f2:(q*18446744073709551616+l) % 18446744073709551616=l:=lo_of _ q l hl
 rw [f1,f2]
 clear HD HE hld hzd
 clear f1 f2 e1 e2 hq
 go_enter Tryz.func152,Tryz.ntmps152
 go_wp2_with (first|(go_at_call 90;(with_reducible refine cmono ?_ (HF.out _ hlt hY hb));rotate_left;rintro e w' ⟨rfl,hb5⟩;obtain ⟨⟨d5,os5⟩,rfl⟩:=regrown_of_below hb5;clear hb5)|((with_reducible refine wp_region_quiet_below ?_ ?_ ?_);kernel_rfl;kernel_rfl;(repeat (go_big_quiet_step (fail)));refine wpQuiet_nil ?_;intro _ hw';obtain ⟨⟨dq,osq⟩,hw''⟩:=hw';subst hw''))
 refine bodyPost_ret (v:=.tuple #[.agg #[.bool x,.int .u64 (q:Nat),.int .u64 (l:Nat)],.int .u64 (z:Nat)]) (by simp [results,Tryz.results152,go_sem]) rfl ⟨rfl,(by repeat (first|exact Below.refl _ _|refine below_reg ?_ _ _|refine below_alloc ?_ _|exact below_drewN ?_ _|assumption))⟩
def buildN (neg:Bool) (m d:Nat):Int × Int × Int :=
 if m≤9223372036854775807∧d≤9223372036854775807 then (if neg then -(m:Int) else m,d,0) else (0,0,16)
theorem build_any (x:Bool) (a b c d:Nat) (w:World) (hb:b<18446744073709551616) (hd:d<18446744073709551616) :
  Calls Tryz.prog 153 #[.agg #[.bool x,.int .u64 a,.int .u64 b],.int .u64 c,.int .u64 d] w fun e w' =>
   e=.returned (.tuple #[.agg #[.int .i64 (buildN x (a*18446744073709551616+b) (c*18446744073709551616+d)).1,.int .i64 (buildN x (a*18446744073709551616+b) (c*18446744073709551616+d)).2.1],
    .int .i64 (buildN x (a*18446744073709551616+b) (c*18446744073709551616+d)).2.2])∧Below w.heap.size w w':=by
 by_cases hfit:a=0∧c=0∧b≤9223372036854775807∧d≤9223372036854775807
 ·obtain ⟨rfl,rfl,h1,h2⟩:=hfit
  have hB:buildN x (0*18446744073709551616+b) (0*18446744073709551616+d)=(if x then -(b:Int) else b,(d:Int),0):=by
   unfold buildN;rw [if_pos ⟨by omega,by omega⟩];simp
  rw [hB]
  clear hB
  cases x
  ·go_enter Tryz.func153,Tryz.ntmps153
   go_wp2_with (first|((with_reducible refine wp_region_quiet_below ?_ ?_ ?_);kernel_rfl;kernel_rfl;(repeat (go_big_quiet_step (fail)));refine wpQuiet_nil ?_;intro _ hw';obtain ⟨⟨dq,osq⟩,hw''⟩:=hw';subst hw''))
   refine bodyPost_ret (v:=.tuple #[.agg #[.int .i64 (b:Int),.int .i64 (d:Int)],.int .i64 0]) (by simp [results,Tryz.results153,go_sem]) rfl ⟨rfl,(by repeat (first|exact Below.refl _ _|refine below_reg ?_ _ _|refine below_alloc ?_ _|exact below_drewN ?_ _|assumption))⟩
  ·go_enter Tryz.func153,Tryz.ntmps153
   go_wp2_with (first|((with_reducible refine wp_region_quiet_below ?_ ?_ ?_);kernel_rfl;kernel_rfl;(repeat (go_big_quiet_step (fail)));refine wpQuiet_nil ?_;intro _ hw';obtain ⟨⟨dq,osq⟩,hw''⟩:=hw';subst hw''))
   refine bodyPost_ret (v:=.tuple #[.agg #[.int .i64 (-(b:Int)),.int .i64 (d:Int)],.int .i64 0]) (by simp [results,Tryz.results153,go_sem]) rfl ⟨rfl,(by repeat (first|exact Below.refl _ _|refine below_reg ?_ _ _|refine below_alloc ?_ _|exact below_drewN ?_ _|assumption))⟩
 ·have hB:buildN x (a*18446744073709551616+b) (c*18446744073709551616+d)=(0,0,16):=by
   unfold buildN;rw [if_neg (by omega)]
  rw [hB]
  clear hB
  go_enter Tryz.func153,Tryz.ntmps153
  go_wp2_with (first|((with_reducible refine wp_region_quiet_below ?_ ?_ ?_);kernel_rfl;kernel_rfl;(repeat (go_big_quiet_step (fail)));refine wpQuiet_nil ?_;intro _ hw';obtain ⟨⟨dq,osq⟩,hw''⟩:=hw';subst hw''))
  all_goals first
   | (exfalso;omega)
   | refine bodyPost_ret (v:=.tuple #[.agg #[.int .i64 0,.int .i64 0],.int .i64 16]) (by simp [results,Tryz.results153,go_sem]) rfl ⟨rfl,(by repeat (first|exact Below.refl _ _|refine below_reg ?_ _ _|refine below_alloc ?_ _|exact below_drewN ?_ _|assumption))⟩
theorem make_any (n d:Int) (w:World) (h0 : -9223372036854775808≤n) (h1:n≤9223372036854775807) (h2 : -9223372036854775808≤d) (h3:d≤9223372036854775807) (hd:d≠0) :
  Calls Tryz.prog 144 #[.int .i64 n,.int .i64 d] w fun e w' =>
   e=.returned (.tuple #[.agg #[.int .i64 (buildN (!(decide (n<0) == decide (d<0))) (n.natAbs / Nat.gcd n.natAbs d.natAbs) (d.natAbs / Nat.gcd n.natAbs d.natAbs)).1,.int .i64 (buildN (!(decide (n<0) == decide (d<0))) (n.natAbs / Nat.gcd n.natAbs d.natAbs) (d.natAbs / Nat.gcd n.natAbs d.natAbs)).2.1],
    .int .i64 (buildN (!(decide (n<0) == decide (d<0))) (n.natAbs / Nat.gcd n.natAbs d.natAbs) (d.natAbs / Nat.gcd n.natAbs d.natAbs)).2.2])∧Below w.heap.size w w':=by
 have hz:(d == 0)=false:=by simpa using hd
 have HB:=fun w=>build_any (!(decide (n<0) == decide (d<0))) 0 (n.natAbs / Nat.gcd n.natAbs d.natAbs) 0 (d.natAbs / Nat.gcd n.natAbs d.natAbs) w
 simp only [Nat.zero_mul,Nat.zero_add,cast0] at HB
 have HBB:=Lib.hid HB
 have hg1:0<Nat.gcd n.natAbs d.natAbs:=Nat.gcd_pos_of_pos_right _ (by omega)
 have hna:=Nat.div_le_self n.natAbs (Nat.gcd n.natAbs d.natAbs)
 have hda:=Nat.div_le_self d.natAbs (Nat.gcd n.natAbs d.natAbs)
 clear HB
 obtain ⟨g,hgd⟩:∃ g,g=Nat.gcd n.natAbs d.natAbs:=⟨_,rfl⟩
 rw [← hgd] at hg1 HBB hna hda
 rw [← hgd]
 have HG:=fun w=>gcd_any n.natAbs d.natAbs w
 rw [← hgd] at HG
 have HGG:=Lib.hid HG
 clear HG hgd
 have hgz:((g:Int) == 0)=false:=by simp;omega
 have W1:IntKind.u64.wrap ((n.natAbs:Int) / (g:Int))=((n.natAbs / g:Nat):Int):=by
  rw [IntKind.wrap_u64,← Int.natCast_ediv];exact Int.emod_eq_of_lt (Int.natCast_nonneg _) (by omega)
 have W2:IntKind.u64.wrap ((d.natAbs:Int) / (g:Int))=((d.natAbs / g:Nat):Int):=by
  rw [IntKind.wrap_u64,← Int.natCast_ediv];exact Int.emod_eq_of_lt (Int.natCast_nonneg _) (by omega)
 obtain ⟨x,hx⟩:∃ x,x=n.natAbs / g:=⟨_,rfl⟩
 obtain ⟨y,hy⟩:∃ y,y=d.natAbs / g:=⟨_,rfl⟩
 rw [← hx] at hna W1 HBB ⊢
 rw [← hy] at hda W2 HBB ⊢
 clear hx hy
 go_enter Tryz.func144,Tryz.ntmps144
 go_wp2_with (first|(go_at_call 73;(with_reducible refine cmono ?_ (abs_any _ _ ?_ ?_));rotate_left;omega;omega;rintro e w' ⟨rfl,hbc0⟩;obtain ⟨⟨dc0,osc0⟩,rfl⟩:=regrown_of_below hbc0;clear hbc0)|(go_at_call 103;(with_reducible refine cmono ?_ (HGG.out _));rotate_left;rintro e w' ⟨rfl,hbc1⟩;obtain ⟨⟨dc1,osc1⟩,rfl⟩:=regrown_of_below hbc1;clear hbc1)|(go_at_call 153;(with_reducible refine cmono ?_ (HBB.out _ ?_ ?_));rotate_left;omega;omega;rintro e w' ⟨rfl,hbc2⟩;obtain ⟨⟨dc2,osc2⟩,rfl⟩:=regrown_of_below hbc2;clear hbc2)|((with_reducible refine wp_region_quiet_below ?_ ?_ ?_);kernel_rfl;kernel_rfl;(repeat (go_big_quiet_step (first|(go_at_call 73;(with_reducible refine Calls.regrown_of (abs_any _ _ ?_ ?_));omega;omega)|(go_at_call 103;(with_reducible refine Calls.regrown_of (HGG.out _)))|(go_at_call 153;(with_reducible refine Calls.regrown_of (HBB.out _ ?_ ?_));omega;omega))));refine wpQuiet_nil ?_;intro _ hw';obtain ⟨⟨dq,osq⟩,hw''⟩:=hw';subst hw'')|((with_reducible refine wp_region_tail_below 17 ?_ ?_ ?_);kernel_rfl;kernel_rfl;simp only [List.take_succ_cons,List.take_zero,List.drop_succ_cons,List.drop_zero];(repeat (go_big_quiet_step (first|(go_at_call 73;(with_reducible refine Calls.regrown_of (abs_any _ _ ?_ ?_));omega;omega)|(go_at_call 103;(with_reducible refine Calls.regrown_of (HGG.out _)))|(go_at_call 153;(with_reducible refine Calls.regrown_of (HBB.out _ ?_ ?_));omega;omega))));refine wpQuiet_nil ?_;intro _ hw';obtain ⟨⟨dq,osq⟩,hw''⟩:=hw';subst hw''))
 refine bodyPost_ret (v:=.tuple #[.agg #[.int .i64 (buildN (!(decide (n<0) == decide (d<0))) x y).1,.int .i64 (buildN (!(decide (n<0) == decide (d<0))) x y).2.1],
    .int .i64 (buildN (!(decide (n<0) == decide (d<0))) x y).2.2]) (by simp [results,Tryz.results144,go_sem]) rfl ⟨rfl,(by repeat (first|exact Below.refl _ _|refine below_reg ?_ _ _|refine below_alloc ?_ _|exact below_drewN ?_ _|assumption))⟩
end Go.Proofs.YtddbmpbihpkabaaGreat

namespace Go.Proofs.YtddbmpbihpkabaaGreat
open Go.RowKit Go.Sort
def Two (hi lo m:Nat):Prop:=hi=m / 18446744073709551616∧lo=m % 18446744073709551616
theorem two_mk (m:Nat):∃ hi lo,Two hi lo m:=⟨_,_,rfl,rfl⟩
theorem Two.eq {hi lo m:Nat} (h:Two hi lo m):hi*18446744073709551616+lo=m:=by
 obtain ⟨rfl,rfl⟩:=h
 have:=Nat.div_add_mod m 18446744073709551616
 rw [Nat.mul_comm] at this
 exact this
theorem Two.lo {hi lo m:Nat} (h:Two hi lo m):lo<18446744073709551616:=by
 obtain ⟨rfl,rfl⟩:=h
 exact Nat.mod_lt _ (by decide)
theorem Two.hi {hi lo m:Nat} (h:Two hi lo m) (k:Nat) (hm:m<k*18446744073709551616):hi<k:=by
 obtain ⟨rfl,rfl⟩:=h
 rw [Nat.div_lt_iff_lt_mul (by decide)]
 exact hm
theorem times_two (a:Int) (x hi lo:Nat) (h:Two hi lo (a.natAbs*x)) (w:World) (h0 : -9223372036854775808≤a) (h1:a≤9223372036854775807) (h3:x≤9223372036854775807) :
  Calls Tryz.prog 82 #[.int .i64 a,.int .i64 x] w fun en w'=>en=.returned (.agg #[.bool (decide (a<0)),.int .u64 hi,.int .u64 lo])∧Below w.heap.size w w':=by
 refine (times_any a x w h0 h1 (by omega) (by omega)).mono fun e w' ⟨he,hb⟩=>⟨?_,hb⟩
 obtain ⟨rfl,rfl⟩:=h
 have hx:decide ((x:Int)<0)=false:=by simp
 rw [he,hx]
 simp
theorem plus_two (x y:Bool) (a b c d hi lo m n:Nat) (h1:Two a b m) (h2:Two c d n) (h:Two hi lo (plusM x y m n)) (w:World) (hm:m<9223372036854775807*18446744073709551616) (hn:n<9223372036854775807*18446744073709551616) :
  Calls Tryz.prog 151 #[.agg #[.bool x,.int .u64 a,.int .u64 b],.agg #[.bool y,.int .u64 c,.int .u64 d]] w fun en w' =>
   en=.returned (.agg #[.bool (plusS x y m n),.int .u64 hi,.int .u64 lo])∧Below w.heap.size w w':=by
 refine (plus_any x y a b c d w h1.lo h2.lo (h1.hi _ hm) (h2.hi _ hn)).mono fun e w' ⟨he,hb⟩=>⟨?_,hb⟩
 rw [he,h1.eq,h2.eq]
 obtain ⟨rfl,rfl⟩:=h
 rfl
theorem over_two (x:Bool) (a b m y hi lo r:Nat) (h1:Two a b m) (h:Two hi lo (m / y)) (hr:r=m % y) (w:World) (hm:m<9223372036854775807*18446744073709551616) (hy:0<y) (hY:y<18446744073709551616) :
  Calls Tryz.prog 152 #[.agg #[.bool x,.int .u64 a,.int .u64 b],.int .u64 y] w fun e w' =>
   e=.returned (.tuple #[.agg #[.bool x,.int .u64 hi,.int .u64 lo],.int .u64 r])∧Below w.heap.size w w':=by
 have ha:=h1.hi 9223372036854775807 hm
 refine (over_any x a b y w (by omega) h1.lo hy hY).mono fun e w' ⟨he,hb⟩=>⟨?_,hb⟩
 rw [he,h1.eq,hr]
 obtain ⟨rfl,rfl⟩:=h
 rfl
theorem build_two (x:Bool) (a b c d m n:Nat) (h1:Two a b m) (h2:Two c d n) (w:World) :
  Calls Tryz.prog 153 #[.agg #[.bool x,.int .u64 a,.int .u64 b],.int .u64 c,.int .u64 d] w fun e w' =>
   e=.returned (.tuple #[.agg #[.int .i64 (buildN x m n).1,.int .i64 (buildN x m n).2.1],.int .i64 (buildN x m n).2.2])∧Below w.heap.size w w':=by
 refine (build_any x a b c d w h1.lo h2.lo).mono fun e w' ⟨he,hb⟩=>⟨?_,hb⟩
 rw [he,h1.eq,h2.eq]
theorem mul64_two (x y hi lo:Nat) (h:Two hi lo (x*y)) (w:World) (hx:x<18446744073709551616) (hy:y<18446744073709551616) :
  Calls Tryz.prog 112 #[.int .u64 x,.int .u64 y] w fun e w'=>e=.returned (.tuple #[.int .u64 hi,.int .u64 lo])∧Below w.heap.size w w':=by
 obtain ⟨rfl,rfl⟩:=h
 exact mul64_any x y w hx hy
def addR (p:Int) (q:Nat) (r:Int) (t:Nat):Int × Int × Int :=
 buildN (plusS (decide (p<0)) (decide (r<0)) (p.natAbs*(t / Nat.gcd q t)) (r.natAbs*(q / Nat.gcd q t)))
  (plusM (decide (p<0)) (decide (r<0)) (p.natAbs*(t / Nat.gcd q t)) (r.natAbs*(q / Nat.gcd q t)) / Nat.gcd (Nat.gcd q t) (plusM (decide (p<0)) (decide (r<0)) (p.natAbs*(t / Nat.gcd q t)) (r.natAbs*(q / Nat.gcd q t)) % Nat.gcd q t))
  (q / Nat.gcd q t*(t / Nat.gcd (Nat.gcd q t) (plusM (decide (p<0)) (decide (r<0)) (p.natAbs*(t / Nat.gcd q t)) (r.natAbs*(q / Nat.gcd q t)) % Nat.gcd q t)))
theorem plusM_le (x y:Bool) (m n:Nat):plusM x y m n≤m+n:=by unfold plusM;(repeat' split)<;>omega
theorem wrap_small (k:Nat) (h:k≤9223372036854775807):IntKind.i64.wrap (k:Int)=(k:Int):=by rw [IntKind.wrap_i64];omega
set_option maxHeartbeats 4000000 in
theorem add_valid (p r:Int) (q t:Nat) (w:World) (p0 : -9223372036854775807≤p) (p1:p≤9223372036854775807) (r0 : -9223372036854775807≤r) (r1:r≤9223372036854775807)
  (q0:0<q) (q1:q≤9223372036854775807) (t0:0<t) (t1:t≤9223372036854775807) (hv:bth p q r t=0) :
  Calls Tryz.prog 125 #[.agg #[.int .i64 p,.int .i64 q],.agg #[.int .i64 r,.int .i64 t]] w fun e w' =>
   e=.returned (.tuple #[.agg #[.int .i64 (addR p q r t).1,.int .i64 (addR p q r t).2.1],.int .i64 (addR p q r t).2.2])∧Below w.heap.size w w':=by
 have HB:=both_any p q r t
 rw [hv] at HB
 have HBB:=Lib.hid HB
 clear HB hv
 unfold addR
 have g0:0<Nat.gcd q t:=Nat.gcd_pos_of_pos_left _ q0
 have gq:Nat.gcd q t≤q:=Nat.le_of_dvd q0 (Nat.gcd_dvd_left _ _)
 have gt:Nat.gcd q t≤t:=Nat.le_of_dvd t0 (Nat.gcd_dvd_right _ _)
 obtain ⟨g,hg⟩:∃ g,g=Nat.gcd q t:=⟨_,rfl⟩
 have HG:=fun w=>gcd_any q t w
 rw [← hg] at g0 gq gt HG ⊢
 have HGG:=Lib.hid HG
 have hx:=Nat.div_le_self t g
 have hy:=Nat.div_le_self q g
 have X:(t:Int).tdiv (g:Int)=((t / g:Nat):Int):=rfl
 have Y:(q:Int).tdiv (g:Int)=((q / g:Nat):Int):=rfl
 clear HG hg
 have gz:((g:Int) == 0)=false:=by simp;omega
 have gn:¬ g=0:=by omega
 obtain ⟨a1,b1,h1⟩:=two_mk (p.natAbs*(t / g))
 obtain ⟨a2,b2,h2⟩:=two_mk (r.natAbs*(q / g))
 have m1:p.natAbs*(t / g)≤9223372036854775807*9223372036854775807:=Nat.mul_le_mul (by omega) (by omega)
 have m2:r.natAbs*(q / g)≤9223372036854775807*9223372036854775807:=Nat.mul_le_mul (by omega) (by omega)
 have T1:=Lib.hid (times_two p (t / g) a1 b1 h1)
 have T2:=Lib.hid (times_two r (q / g) a2 b2 h2)
 obtain ⟨x,hxd⟩:∃ x,x=t / g:=⟨_,rfl⟩
 obtain ⟨y,hyd⟩:∃ y,y=q / g:=⟨_,rfl⟩
 rw [← hxd] at hx X h1 m1 T1 ⊢
 rw [← hyd] at hy Y h2 m2 T2 ⊢
 obtain ⟨m,hm⟩:∃ m,m=p.natAbs*x:=⟨_,rfl⟩
 obtain ⟨n,hn⟩:∃ n,n=r.natAbs*y:=⟨_,rfl⟩
 rw [← hm] at h1 m1 ⊢
 rw [← hn] at h2 m2 ⊢
 have hS:=plusM_le (decide (p<0)) (decide (r<0)) m n
 obtain ⟨s,hs⟩:∃ s,s=plusS (decide (p<0)) (decide (r<0)) m n:=⟨_,rfl⟩
 obtain ⟨k,hk⟩:∃ k,k=plusM (decide (p<0)) (decide (r<0)) m n:=⟨_,rfl⟩
 rw [← hs,← hk]
 rw [← hk] at hS
 have hkb:k<9223372036854775807*18446744073709551616:=Nat.lt_of_le_of_lt hS (by omega)
 obtain ⟨a3,b3,h3⟩:=two_mk k
 have P1:=plus_two (decide (p<0)) (decide (r<0)) a1 b1 a2 b2 a3 b3 m n h1 h2 (by rw [← hk];exact h3)
 rw [← hs] at P1
 have P1H:=Lib.hid P1
 have hm2:m<9223372036854775807*18446744073709551616:=Nat.lt_of_le_of_lt m1 (by decide)
 have hn2:n<9223372036854775807*18446744073709551616:=Nat.lt_of_le_of_lt m2 (by decide)
 obtain ⟨c1,c2,hc⟩:=two_mk (k / g)
 obtain ⟨e,he⟩:∃ e,e=k % g:=⟨_,rfl⟩
 have O1:=Lib.hid (over_two s a3 b3 k g c1 c2 e h3 hc he)
 rw [← he]
 have heg:=Nat.mod_lt k g0
 rw [← he] at heg
 obtain ⟨h,hh⟩:∃ h,h=Nat.gcd g e:=⟨_,rfl⟩
 have h0:0<h:=by rw [hh];exact Nat.gcd_pos_of_pos_left _ g0
 have hle:h≤g:=by rw [hh];exact Nat.le_of_dvd g0 (Nat.gcd_dvd_left _ _)
 rw [← hh]
 have HH:=fun w=>gcd_any g e w
 rw [← hh] at HH
 have HHH:=Lib.hid HH
 obtain ⟨d1,d2,hd⟩:=two_mk (k / h)
 have O2:=Lib.hid (over_two s a3 b3 k h d1 d2 (k % h) h3 hd rfl)
 have tz:=Nat.div_le_self t h
 have hz:((h:Int) == 0)=false:=by simp;omega
 have Xw:=wrap_small x (by omega)
 have Yw:=wrap_small y (by omega)
 have Z:IntKind.u64.wrap ((t:Int) / (h:Int))=((t / h:Nat):Int):=by
  rw [IntKind.wrap_u64,← Int.natCast_ediv];exact Int.emod_eq_of_lt (Int.natCast_nonneg _) (by omega)
 obtain ⟨z,hzd⟩:∃ z,z=t / h:=⟨_,rfl⟩
 rw [← hzd] at tz Z ⊢
 obtain ⟨f1,f2,hf⟩:=two_mk (y*z)
 have M1:=Lib.hid (mul64_two y z f1 f2 hf)
 have B1:=Lib.hid (build_two s d1 d2 f1 f2 (k / h) (y*z) hd hf)
 obtain ⟨kr,hkr⟩:∃ kr,kr=k % h:=⟨_,rfl⟩
 rw [← hkr] at O2
 clear hxd hyd hm hn hs hk he hh hzd hf hd hc h1 h2 h3 P1 HH hS m1 m2 hkr
 go_enter Tryz.func125,Tryz.ntmps125
 go_wp2_with (first|(go_at_call 79;(with_reducible refine cmono ?_ (HBB.out _ ?_ ?_ ?_ ?_ ?_ ?_ ?_ ?_));rotate_left;omega;omega;omega;omega;omega;omega;omega;omega;rintro e w' ⟨rfl,hbc0⟩;obtain ⟨⟨dc0,osc0⟩,rfl⟩:=regrown_of_below hbc0;clear hbc0)|(go_at_call 103;(with_reducible refine cmono ?_ (HGG.out _));rotate_left;rintro e w' ⟨rfl,hbc1⟩;obtain ⟨⟨dc1,osc1⟩,rfl⟩:=regrown_of_below hbc1;clear hbc1)|(go_at_call 103;(with_reducible refine cmono ?_ (HHH.out _));rotate_left;rintro e w' ⟨rfl,hbc2⟩;obtain ⟨⟨dc2,osc2⟩,rfl⟩:=regrown_of_below hbc2;clear hbc2)|(go_at_call 82;(with_reducible refine cmono ?_ (T1.out _ ?_ ?_ ?_));rotate_left;omega;omega;omega;rintro e w' ⟨rfl,hbc3⟩;obtain ⟨⟨dc3,osc3⟩,rfl⟩:=regrown_of_below hbc3;clear hbc3)|(go_at_call 82;(with_reducible refine cmono ?_ (T2.out _ ?_ ?_ ?_));rotate_left;omega;omega;omega;rintro e w' ⟨rfl,hbc4⟩;obtain ⟨⟨dc4,osc4⟩,rfl⟩:=regrown_of_below hbc4;clear hbc4)|(go_at_call 151;(with_reducible refine cmono ?_ (P1H.out _ hm2 hn2));rotate_left;rintro e w' ⟨rfl,hbc5⟩;obtain ⟨⟨dc5,osc5⟩,rfl⟩:=regrown_of_below hbc5;clear hbc5)|(go_at_call 152;(with_reducible refine cmono ?_ (O1.out _ hkb g0 ?_));rotate_left;omega;rintro e w' ⟨rfl,hbc6⟩;obtain ⟨⟨dc6,osc6⟩,rfl⟩:=regrown_of_below hbc6;clear hbc6)|(go_at_call 152;(with_reducible refine cmono ?_ (O2.out _ hkb h0 ?_));rotate_left;omega;rintro e w' ⟨rfl,hbc7⟩;obtain ⟨⟨dc7,osc7⟩,rfl⟩:=regrown_of_below hbc7;clear hbc7)|(go_at_call 112;(with_reducible refine cmono ?_ (M1.out _ ?_ ?_));rotate_left;omega;omega;rintro e w' ⟨rfl,hbc8⟩;obtain ⟨⟨dc8,osc8⟩,rfl⟩:=regrown_of_below hbc8;clear hbc8)|(go_at_call 153;(with_reducible refine cmono ?_ (B1.out _));rotate_left;rintro e w' ⟨rfl,hbc9⟩;obtain ⟨⟨dc9,osc9⟩,rfl⟩:=regrown_of_below hbc9;clear hbc9)|((with_reducible refine wp_region_quiet_below ?_ ?_ ?_);kernel_rfl;kernel_rfl;(repeat (go_big_quiet_step (first|(go_at_call 79;(with_reducible refine Calls.regrown_of (HBB.out _ ?_ ?_ ?_ ?_ ?_ ?_ ?_ ?_));omega;omega;omega;omega;omega;omega;omega;omega)|(go_at_call 103;(with_reducible refine Calls.regrown_of (HGG.out _)))|(go_at_call 103;(with_reducible refine Calls.regrown_of (HHH.out _)))|(go_at_call 82;(with_reducible refine Calls.regrown_of (T1.out _ ?_ ?_ ?_));omega;omega;omega)|(go_at_call 82;(with_reducible refine Calls.regrown_of (T2.out _ ?_ ?_ ?_));omega;omega;omega)|(go_at_call 151;(with_reducible refine Calls.regrown_of (P1H.out _ hm2 hn2)))|(go_at_call 152;(with_reducible refine Calls.regrown_of (O1.out _ hkb g0 ?_));omega)|(go_at_call 152;(with_reducible refine Calls.regrown_of (O2.out _ hkb h0 ?_));omega)|(go_at_call 112;(with_reducible refine Calls.regrown_of (M1.out _ ?_ ?_));omega;omega)|(go_at_call 153;(with_reducible refine Calls.regrown_of (B1.out _))))));refine wpQuiet_nil ?_;intro _ hw';obtain ⟨⟨dq,osq⟩,hw''⟩:=hw';subst hw'')|((with_reducible refine wp_region_alloc_at 15 8 #[.bool false,.int .u64 0,.int .u64 0] 136 ?_ ?_ ?_ ?_);kernel_rfl;kernel_rfl;(intro _ _;simp [go_sem]);simp only [List.take_succ_cons,List.take_zero,List.drop_succ_cons,List.drop_zero];(repeat (refine wpS_step (fun K hK => ?_);go_simp;first|(refine hK _ ?_;clear hK K)|(apply Exists.intro;refine ⟨fun _ => ?_,hK _ ?_⟩;(first|(go_at_call 79;(with_reducible refine kept_of (HBB.out _ ?_ ?_ ?_ ?_ ?_ ?_ ?_ ?_));omega;omega;omega;omega;omega;omega;omega;omega)|(go_at_call 103;(with_reducible refine kept_of (HGG.out _)))|(go_at_call 103;(with_reducible refine kept_of (HHH.out _)))|(go_at_call 82;(with_reducible refine kept_of (T1.out _ ?_ ?_ ?_));omega;omega;omega)|(go_at_call 82;(with_reducible refine kept_of (T2.out _ ?_ ?_ ?_));omega;omega;omega)|(go_at_call 151;(with_reducible refine kept_of (P1H.out _ hm2 hn2)))|(go_at_call 152;(with_reducible refine kept_of (O1.out _ hkb g0 ?_));omega)|(go_at_call 152;(with_reducible refine kept_of (O2.out _ hkb h0 ?_));omega)|(go_at_call 112;(with_reducible refine kept_of (M1.out _ ?_ ?_));omega;omega)|(go_at_call 153;(with_reducible refine kept_of (B1.out _))));clear hK K)));refine wpS_nil ?_;rintro ⟨dp,op⟩ ⟨dq,oq⟩))
 refine bodyPost_ret (v:=.tuple #[.agg #[.int .i64 (buildN s (k / h) (y*z)).1,.int .i64 (buildN s (k / h) (y*z)).2.1],.int .i64 (buildN s (k / h) (y*z)).2.2]) (by simp [results,Tryz.results125,go_sem]) rfl ⟨rfl,(by repeat (first|exact Below.refl _ _|refine below_reg ?_ _ _|refine below_alloc ?_ _|exact below_drewN ?_ _|assumption))⟩
theorem add_bad (p q r t:Int) (w:World) (p0 : -9223372036854775808≤p) (p1:p≤9223372036854775807) (r0 : -9223372036854775808≤r) (r1:r≤9223372036854775807)
  (q0 : -9223372036854775808≤q) (q1:q≤9223372036854775807) (t0 : -9223372036854775808≤t) (t1:t≤9223372036854775807) (hv:bth p q r t=8) :
  Calls Tryz.prog 125 #[.agg #[.int .i64 p,.int .i64 q],.agg #[.int .i64 r,.int .i64 t]] w fun e w' =>
   e=.returned (.tuple #[.agg #[.int .i64 0,.int .i64 0],.int .i64 8])∧Below w.heap.size w w':=by
 have HB:=both_any p q r t
 rw [hv] at HB
 have HBB:=Lib.hid HB
 clear HB hv
 go_enter Tryz.func125,Tryz.ntmps125
 go_wp2_with (first|(go_at_call 79;(with_reducible refine cmono ?_ (HBB.out _ ?_ ?_ ?_ ?_ ?_ ?_ ?_ ?_));rotate_left;omega;omega;omega;omega;omega;omega;omega;omega;rintro e w' ⟨rfl,hbc0⟩;obtain ⟨⟨dc0,osc0⟩,rfl⟩:=regrown_of_below hbc0;clear hbc0)|((with_reducible refine wp_region_quiet_below ?_ ?_ ?_);kernel_rfl;kernel_rfl;(repeat (go_big_quiet_step (first|(go_at_call 79;(with_reducible refine Calls.regrown_of (HBB.out _ ?_ ?_ ?_ ?_ ?_ ?_ ?_ ?_));omega;omega;omega;omega;omega;omega;omega;omega))));refine wpQuiet_nil ?_;intro _ hw';obtain ⟨⟨dq,osq⟩,hw''⟩:=hw';subst hw''))
 refine bodyPost_ret (v:=.tuple #[.agg #[.int .i64 0,.int .i64 0],.int .i64 8]) (by simp [results,Tryz.results125,go_sem]) rfl ⟨rfl,(by repeat (first|exact Below.refl _ _|refine below_reg ?_ _ _|refine below_alloc ?_ _|exact below_drewN ?_ _|assumption))⟩
theorem bth_08 (n d m e:Int):bth n d m e=0∨bth n d m e=8:=by unfold bth;split<;>simp [chk_08]
theorem chk_ok {n d:Int} (h:chk n d=0):1≤d∧n ≠ -9223372036854775808∧Nat.gcd d.toNat n.natAbs≤1:=by
 unfold chk at h
 split at h
 ·omega
 ·omega
theorem bth_ok {n d m e:Int} (h:bth n d m e=0):chk n d=0∧chk m e=0:=by
 unfold bth at h
 split at h
 ·exact ⟨by assumption,h⟩
 ·omega
def addV (p q r t:Int):Int × Int × Int:=if bth p q r t=0 then addR p q.toNat r t.toNat else (0,0,8)
theorem add_any (p q r t:Int) (w:World) (p0 : -9223372036854775808≤p) (p1:p≤9223372036854775807) (q0 : -9223372036854775808≤q) (q1:q≤9223372036854775807)
  (r0 : -9223372036854775808≤r) (r1:r≤9223372036854775807) (t0 : -9223372036854775808≤t) (t1:t≤9223372036854775807) :
  Calls Tryz.prog 125 #[.agg #[.int .i64 p,.int .i64 q],.agg #[.int .i64 r,.int .i64 t]] w fun e w' =>
   e=.returned (.tuple #[.agg #[.int .i64 (addV p q r t).1,.int .i64 (addV p q r t).2.1],.int .i64 (addV p q r t).2.2])∧Below w.heap.size w w':=by
 unfold addV
 rcases bth_08 p q r t with hv|hv
 ·rw [if_pos hv]
  obtain ⟨h1,h2⟩:=bth_ok hv
  obtain ⟨a1,a2,_⟩:=chk_ok h1
  obtain ⟨b1,b2,_⟩:=chk_ok h2
  obtain ⟨Q,rfl⟩:=Int.eq_ofNat_of_zero_le (show 0≤q by omega)
  obtain ⟨T,rfl⟩:=Int.eq_ofNat_of_zero_le (show 0≤t by omega)
  exact add_valid p r Q T w (by omega) p1 (by omega) r1 (by omega) (by omega) (by omega) (by omega) hv
 ·rw [if_neg (by omega)]
  exact add_bad p q r t w p0 p1 r0 r1 q0 q1 t0 t1 hv
end Go.Proofs.YtddbmpbihpkabaaGreat

namespace Go.Proofs.YtddbmpbihpkabaaGreat
open Go.RowKit
end Go.Proofs.YtddbmpbihpkabaaGreat

namespace Go.Proofs.YtddbmpbihpkabaaGreat
open Go.RowKit Go.Sort
def subV (p q r t:Int):Int × Int × Int:=if bth p q r t=0 then addV p q (-r) t else (0,0,8)
theorem sub_any (p q r t:Int) (w:World) (p0 : -9223372036854775808≤p) (p1:p≤9223372036854775807) (q0 : -9223372036854775808≤q) (q1:q≤9223372036854775807)
  (r0 : -9223372036854775808≤r) (r1:r≤9223372036854775807) (t0 : -9223372036854775808≤t) (t1:t≤9223372036854775807) :
  Calls Tryz.prog 91 #[.agg #[.int .i64 p,.int .i64 q],.agg #[.int .i64 r,.int .i64 t]] w fun e w' =>
   e=.returned (.tuple #[.agg #[.int .i64 (subV p q r t).1,.int .i64 (subV p q r t).2.1],.int .i64 (subV p q r t).2.2])∧Below w.heap.size w w':=by
 unfold subV
 rcases bth_08 p q r t with hv|hv
 ·rw [if_pos hv]
  obtain ⟨h1,h2⟩:=bth_ok hv
  obtain ⟨a1,a2,_⟩:=chk_ok h1
  obtain ⟨b1,b2,_⟩:=chk_ok h2
  have HB:=both_any p q r t
  rw [hv] at HB
  have HBB:=Lib.hid HB
  clear HB hv h1 h2
  have r2 : -9223372036854775807≤r:=by omega
  go_enter Tryz.func91,Tryz.ntmps91
  go_wp2_with (first|(go_at_call 79;(with_reducible refine cmono ?_ (HBB.out _ ?_ ?_ ?_ ?_ ?_ ?_ ?_ ?_));rotate_left;omega;omega;omega;omega;omega;omega;omega;omega;rintro e w' ⟨rfl,hbc0⟩;obtain ⟨⟨dc0,osc0⟩,rfl⟩:=regrown_of_below hbc0;clear hbc0)|(go_at_call 125;(with_reducible refine cmono ?_ (add_any _ _ _ _ _ ?_ ?_ ?_ ?_ ?_ ?_ ?_ ?_));rotate_left;omega;omega;omega;omega;omega;omega;omega;omega;rintro e w' ⟨rfl,hbc1⟩;obtain ⟨⟨dc1,osc1⟩,rfl⟩:=regrown_of_below hbc1;clear hbc1)|((with_reducible refine wp_region_quiet_below ?_ ?_ ?_);kernel_rfl;kernel_rfl;(repeat (go_big_quiet_step (first|(go_at_call 79;(with_reducible refine Calls.regrown_of (HBB.out _ ?_ ?_ ?_ ?_ ?_ ?_ ?_ ?_));omega;omega;omega;omega;omega;omega;omega;omega)|(go_at_call 125;(with_reducible refine Calls.regrown_of (add_any _ _ _ _ _ ?_ ?_ ?_ ?_ ?_ ?_ ?_ ?_));omega;omega;omega;omega;omega;omega;omega;omega))));refine wpQuiet_nil ?_;intro _ hw';obtain ⟨⟨dq,osq⟩,hw''⟩:=hw';subst hw''))
  refine bodyPost_ret (v:=.tuple #[.agg #[.int .i64 (addV p q (-r) t).1,.int .i64 (addV p q (-r) t).2.1],.int .i64 (addV p q (-r) t).2.2]) (by simp [results,Tryz.results91,go_sem]) rfl ⟨rfl,(by repeat (first|exact Below.refl _ _|refine below_reg ?_ _ _|refine below_alloc ?_ _|exact below_drewN ?_ _|assumption))⟩
 ·rw [if_neg (by omega)]
  have HB:=both_any p q r t
  rw [hv] at HB
  have HBB:=Lib.hid HB
  clear HB hv
  go_enter Tryz.func91,Tryz.ntmps91
  go_wp2_with (first|(go_at_call 79;(with_reducible refine cmono ?_ (HBB.out _ ?_ ?_ ?_ ?_ ?_ ?_ ?_ ?_));rotate_left;omega;omega;omega;omega;omega;omega;omega;omega;rintro e w' ⟨rfl,hbc0⟩;obtain ⟨⟨dc0,osc0⟩,rfl⟩:=regrown_of_below hbc0;clear hbc0)|((with_reducible refine wp_region_quiet_below ?_ ?_ ?_);kernel_rfl;kernel_rfl;(repeat (go_big_quiet_step (first|(go_at_call 79;(with_reducible refine Calls.regrown_of (HBB.out _ ?_ ?_ ?_ ?_ ?_ ?_ ?_ ?_));omega;omega;omega;omega;omega;omega;omega;omega))));refine wpQuiet_nil ?_;intro _ hw';obtain ⟨⟨dq,osq⟩,hw''⟩:=hw';subst hw''))
  refine bodyPost_ret (v:=.tuple #[.agg #[.int .i64 0,.int .i64 0],.int .i64 8]) (by simp [results,Tryz.results91,go_sem]) rfl ⟨rfl,(by repeat (first|exact Below.refl _ _|refine below_reg ?_ _ _|refine below_alloc ?_ _|exact below_drewN ?_ _|assumption))⟩
def makeV (n d:Int):Int × Int × Int :=
 if d=0 then (0,0,26) else buildN (!(decide (n<0) == decide (d<0))) (n.natAbs / Nat.gcd n.natAbs d.natAbs) (d.natAbs / Nat.gcd n.natAbs d.natAbs)
theorem makeV_any (n d:Int) (w:World) (h0 : -9223372036854775808≤n) (h1:n≤9223372036854775807) (h2 : -9223372036854775808≤d) (h3:d≤9223372036854775807) :
  Calls Tryz.prog 144 #[.int .i64 n,.int .i64 d] w fun e w' =>
   e=.returned (.tuple #[.agg #[.int .i64 (makeV n d).1,.int .i64 (makeV n d).2.1],.int .i64 (makeV n d).2.2])∧Below w.heap.size w w':=by
 unfold makeV
 by_cases hd:d=0
 ·subst hd
  rw [if_pos rfl]
  go_enter Tryz.func144,Tryz.ntmps144
  go_wp2_with (first|((with_reducible refine wp_region_quiet_below ?_ ?_ ?_);kernel_rfl;kernel_rfl;(repeat (go_big_quiet_step (fail)));refine wpQuiet_nil ?_;intro _ hw';obtain ⟨⟨dq,osq⟩,hw''⟩:=hw';subst hw''))
  refine bodyPost_ret (v:=.tuple #[.agg #[.int .i64 0,.int .i64 0],.int .i64 26]) (by simp [results,Tryz.results144,go_sem]) rfl ⟨rfl,(by repeat (first|exact Below.refl _ _|refine below_reg ?_ _ _|refine below_alloc ?_ _|exact below_drewN ?_ _|assumption))⟩
 ·rw [if_neg hd]
  exact make_any n d w h0 h1 h2 h3 hd
def cmpV (p q r t:Int):Int × Int:=if bth p q r t=0 then (cmpN (p*t) (r*q),0) else (0,8)
theorem compare_two (x y:Bool) (a b c d m n:Nat) (h1:Two a b m) (h2:Two c d n) (w:World) :
  Calls Tryz.prog 81 #[.agg #[.bool x,.int .u64 a,.int .u64 b],.agg #[.bool y,.int .u64 c,.int .u64 d]] w fun en w'=>en=.returned (.int .i64 (cmpN (m:Int) (n:Int)))∧Below w.heap.size w w':=by
 refine (compare_any x y a b c d w h1.lo h2.lo).mono fun e w' ⟨he,hb⟩=>⟨?_,hb⟩
 rw [he,h1.eq,h2.eq]
theorem cmp_any (p q r t:Int) (w:World) (p0 : -9223372036854775808≤p) (p1:p≤9223372036854775807) (q0 : -9223372036854775808≤q) (q1:q≤9223372036854775807)
  (r0 : -9223372036854775808≤r) (r1:r≤9223372036854775807) (t0 : -9223372036854775808≤t) (t1:t≤9223372036854775807) :
  Calls Tryz.prog 53 #[.agg #[.int .i64 p,.int .i64 q],.agg #[.int .i64 r,.int .i64 t]] w fun e w' =>
   e=.returned (.tuple #[.int .i64 (cmpV p q r t).1,.int .i64 (cmpV p q r t).2])∧Below w.heap.size w w':=by
 unfold cmpV
 rcases bth_08 p q r t with hv|hv
 ·rw [if_pos hv]
  obtain ⟨h1,h2⟩:=bth_ok hv
  obtain ⟨a1,a2,_⟩:=chk_ok h1
  obtain ⟨b1,b2,_⟩:=chk_ok h2
  obtain ⟨Q,rfl⟩:=Int.eq_ofNat_of_zero_le (show 0≤q by omega)
  obtain ⟨T,rfl⟩:=Int.eq_ofNat_of_zero_le (show 0≤t by omega)
  have HB:=both_any p Q r T
  rw [hv] at HB
  have HBB:=Lib.hid HB
  clear HB hv h1 h2
  obtain ⟨c1,c2,hc⟩:=two_mk (p.natAbs*T)
  obtain ⟨d1,d2,hd⟩:=two_mk (r.natAbs*Q)
  have T1:=Lib.hid (times_two p T c1 c2 hc)
  have T2:=Lib.hid (times_two r Q d1 d2 hd)
  obtain ⟨k,hk⟩:∃ k,k=cmpN ((p.natAbs*T:Nat):Int) ((r.natAbs*Q:Nat):Int):=⟨_,rfl⟩
  have C1:=compare_two (decide (p<0)) (decide (r<0)) c1 c2 d1 d2 _ _ hc hd
  rw [← hk] at C1
  have C1H:=Lib.hid C1
  have HK:=Lib.hid hk
  have hk1 : -1≤k∧k≤1:=by rw [hk];unfold cmpN;(repeat' split)<;>omega
  obtain ⟨hk1,hk2⟩:=hk1
  clear C1 hk hc hd
  cases hp:decide (p<0)<;>cases hr:decide (r<0)
  all_goals rw [hp,hr] at C1H
  all_goals rw [hp] at T1
  all_goals rw [hr] at T2
  all_goals
   go_enter Tryz.func53,Tryz.ntmps53
   go_wp2_with (first|(go_at_call 79;(with_reducible refine cmono ?_ (HBB.out _ ?_ ?_ ?_ ?_ ?_ ?_ ?_ ?_));rotate_left;omega;omega;omega;omega;omega;omega;omega;omega;rintro e w' ⟨rfl,hbc0⟩;obtain ⟨⟨dc0,osc0⟩,rfl⟩:=regrown_of_below hbc0;clear hbc0)|(go_at_call 80;(with_reducible refine cmono ?_ (cmpi_any _ _ _));rotate_left;rintro e w' ⟨rfl,hbc1⟩;obtain ⟨⟨dc1,osc1⟩,rfl⟩:=regrown_of_below hbc1;clear hbc1)|(go_at_call 82;(with_reducible refine cmono ?_ (T1.out _ ?_ ?_ ?_));rotate_left;omega;omega;omega;rintro e w' ⟨rfl,hbc2⟩;obtain ⟨⟨dc2,osc2⟩,rfl⟩:=regrown_of_below hbc2;clear hbc2)|(go_at_call 82;(with_reducible refine cmono ?_ (T2.out _ ?_ ?_ ?_));rotate_left;omega;omega;omega;rintro e w' ⟨rfl,hbc3⟩;obtain ⟨⟨dc3,osc3⟩,rfl⟩:=regrown_of_below hbc3;clear hbc3)|(go_at_call 81;(with_reducible refine cmono ?_ (C1H.out _));rotate_left;rintro e w' ⟨rfl,hbc4⟩;obtain ⟨⟨dc4,osc4⟩,rfl⟩:=regrown_of_below hbc4;clear hbc4)|((with_reducible refine wp_region_quiet_below ?_ ?_ ?_);kernel_rfl;kernel_rfl;(repeat (go_big_quiet_step (first|(go_at_call 79;(with_reducible refine Calls.regrown_of (HBB.out _ ?_ ?_ ?_ ?_ ?_ ?_ ?_ ?_));omega;omega;omega;omega;omega;omega;omega;omega)|(go_at_call 80;(with_reducible refine Calls.regrown_of (cmpi_any _ _ _)))|(go_at_call 82;(with_reducible refine Calls.regrown_of (T1.out _ ?_ ?_ ?_));omega;omega;omega)|(go_at_call 82;(with_reducible refine Calls.regrown_of (T2.out _ ?_ ?_ ?_));omega;omega;omega)|(go_at_call 81;(with_reducible refine Calls.regrown_of (C1H.out _))))));refine wpQuiet_nil ?_;intro _ hw';obtain ⟨⟨dq,osq⟩,hw''⟩:=hw';subst hw''))
  all_goals go_ret2
  all_goals refine ⟨ret_of ?_,(by repeat (first|exact Below.refl _ _|refine below_reg ?_ _ _|refine below_alloc ?_ _|exact below_drewN ?_ _|assumption))⟩
  ·have hp':0≤p:=by simpa using hp
   have hr':0≤r:=by simpa using hr
   obtain ⟨a,rfl⟩:=Int.eq_ofNat_of_zero_le hp'
   obtain ⟨b,rfl⟩:=Int.eq_ofNat_of_zero_le hr'
   show Value.tuple #[.int .i64 k,.int .i64 0]=_
   rw [HK.out];simp
  ·have hp':0≤p:=by simpa using hp
   have hr':r<0:=by simpa using hr
   have e:cmpN p r=cmpN (p*T) (r*Q):=by
    have g1:0≤p*(T:Int):=Int.mul_nonneg hp' (by omega)
    have g2:r*(Q:Int)<0:=Int.mul_neg_of_neg_of_pos hr' (by omega)
    unfold cmpN;(repeat' split)<;>omega
   rw [← e];rfl
  ·have hp':p<0:=by simpa using hp
   have hr':0≤r:=by simpa using hr
   have e:cmpN p r=cmpN (p*T) (r*Q):=by
    have g1:0≤r*(Q:Int):=Int.mul_nonneg hr' (by omega)
    have g2:p*(T:Int)<0:=Int.mul_neg_of_neg_of_pos hp' (by omega)
    unfold cmpN;(repeat' split)<;>omega
   rw [← e];rfl
  ·have hp':p<0:=by simpa using hp
   have hr':r<0:=by simpa using hr
   obtain ⟨a,rfl⟩:∃ a:Nat,p = -(a:Int):=⟨p.natAbs,by omega⟩
   obtain ⟨b,rfl⟩:∃ b:Nat,r = -(b:Int):=⟨r.natAbs,by omega⟩
   show Value.tuple #[.int .i64 (-k),.int .i64 0]=_
   rw [HK.out]
   have e : -cmpN (((-(a:Int)).natAbs*T:Nat):Int) (((-(b:Int)).natAbs*Q:Nat):Int)=cmpN (-(a:Int)*T) (-(b:Int)*Q):=by
    have g1 : -(a:Int)*(T:Int) = -((a*T:Nat):Int):=by simp [Int.neg_mul]
    have g2 : -(b:Int)*(Q:Int) = -((b*Q:Nat):Int):=by simp [Int.neg_mul]
    rw [g1,g2,Int.natAbs_neg,Int.natAbs_neg,Int.natAbs_natCast,Int.natAbs_natCast]
    generalize a*T=x
    generalize b*Q=y
    unfold cmpN;(repeat' split)<;>omega
   rw [e]
 ·rw [if_neg (by omega)]
  have HB:=both_any p q r t
  rw [hv] at HB
  have HBB:=Lib.hid HB
  clear HB hv
  go_enter Tryz.func53,Tryz.ntmps53
  go_wp2_with (first|(go_at_call 79;(with_reducible refine cmono ?_ (HBB.out _ ?_ ?_ ?_ ?_ ?_ ?_ ?_ ?_));rotate_left;omega;omega;omega;omega;omega;omega;omega;omega;rintro e w' ⟨rfl,hbc0⟩;obtain ⟨⟨dc0,osc0⟩,rfl⟩:=regrown_of_below hbc0;clear hbc0)|((with_reducible refine wp_region_quiet_below ?_ ?_ ?_);kernel_rfl;kernel_rfl;(repeat (go_big_quiet_step (first|(go_at_call 79;(with_reducible refine Calls.regrown_of (HBB.out _ ?_ ?_ ?_ ?_ ?_ ?_ ?_ ?_));omega;omega;omega;omega;omega;omega;omega;omega))));refine wpQuiet_nil ?_;intro _ hw';obtain ⟨⟨dq,osq⟩,hw''⟩:=hw';subst hw''))
  go_ret2
  exact ⟨rfl,(by repeat (first|exact Below.refl _ _|refine below_reg ?_ _ _|refine below_alloc ?_ _|exact below_drewN ?_ _|assumption))⟩
def mulR (p:Int) (q:Nat) (r:Int) (t:Nat):Int × Int × Int :=
 buildN (!(decide (p.tdiv (Nat.gcd t p.natAbs)<0) == decide (r.tdiv (Nat.gcd q r.natAbs)<0))) ((p.tdiv (Nat.gcd t p.natAbs)).natAbs*(r.tdiv (Nat.gcd q r.natAbs)).natAbs)
  (q / Nat.gcd q r.natAbs*(t / Nat.gcd t p.natAbs))
def mulV (p q r t:Int):Int × Int × Int:=if bth p q r t=0 then mulR p q.toNat r t.toNat else (0,0,8)
end Go.Proofs.YtddbmpbihpkabaaGreat
