import Derived.Test.YtfkfficabeclcaaGreatDoorGLTTelAV
import Derived.Test.YtfkfficabeclcaaGreatDoorGLTTelAU
import Derived.Lib.AtoiTie
import Derived.Lib.AtoiAllCases
import Derived.Test.YtfkfficabeclcaaGreatDoorGLTTelAP
import Derived.Test.YtfkfficabeclcaaGreatDoorGLTTelAT
set_option linter.all false
namespace Go.Proofs.YtfkfficabeclcaaGreatDoor
open Go Go.RowKit Go.Sort Sx
set_option maxRecDepth 2000
theorem mOk_i {m:Mt}:mOk m=true↔chk m.n m.d=0∧0≤m.i∧m.i<m.j∧m.j≤65535:=by
 unfold mOk
 simp only [Bool.and_eq_true,decide_eq_true_eq]
theorem mRun_at {l:List Mt} {i:Nat} (h:i<l.length):(mRun (prev l i) (l.drop i)=false∧mOk l[i]=false) ∨
  (mOk l[i]=true∧mRun (prev l i) (l.drop i)=false∧∃ h0:0<i,¬ cfM (l[i-1]'(by omega)) l[i]<0)∨(mOk l[i]=true∧mRun (prev l i) (l.drop i)=mRun (prev l (i+1)) (l.drop (i+1))∧(∀ h0:0<i,cfM (l[i-1]'(by omega)) l[i]<0)):=by
 rw [mRun_drop h]
 by_cases h1:mOk l[i]=true
 ·rcases Nat.eq_zero_or_pos i with h0|h0
  ·refine .inr (.inr ⟨h1,?_,fun h=>by omega⟩)
   rw [h1]
   simp [h0]
  ·rw [List.getElem?_eq_getElem (show i-1<l.length by omega)]
   have e0:decide (i=0)=false:=decide_eq_false (by omega)
   by_cases h2:cfM (l[i-1]'(by omega)) l[i]<0
   ·refine .inr (.inr ⟨h1,?_,fun _=>h2⟩)
    rw [h1,e0]
    simp [h2]
   ·refine .inr (.inl ⟨h1,?_,h0,h2⟩)
    rw [h1,e0]
    simp [h2]
 ·refine .inl ⟨?_,by simpa using h1⟩
  rw [show mOk l[i]=false by simpa using h1]
  rfl
set_option maxRecDepth 100000 in
set_option maxHeartbeats 4000000 in
theorem tmeetings_fn (l:List Mt) (hl0:l.length≤1000000):FnOK Tryz.prog 39 [.one (mts l)] (.c (.one (bol (mtR l)))):=by
 have hll:(l.map Mt.c).length=l.length:=List.length_map ..
 unfold mtR
 rw [show mRun none l=mRun (prev l 0) (l.drop 0) from rfl]
 obtain ⟨V,hV⟩:∃ V,V=mRun (prev l 0) (l.drop 0):=⟨_,rfl⟩
 rw [← hV]
 refine fn_ok (by kernel_rfl) ty_ok Tryz.func39 rfl (fun _ _=>Tryz.call39 _ _) rfl ?_
 intro hw
 clear hw
 repeat' ((conv=>whnf);first|(with_reducible first|refine br_t ?_|refine br_f ?_|refine za ?_|refine zg ?_)|refine zp ?_|refine zq ?_|(with_reducible first|refine bc (fun h => ?_) (fun h => ?_)|refine zt ?_|refine zf ?_|refine br_i (fun h => ?_) (fun h => ?_))|refine zg ?_|refine zi ?_|refine zb ?_)
 refine loop_J (by kernel_rfl) ty_ok (σ:=Nat) (fun i=>[(7,sV (.int .i64 (i:Nat)))]) (fun _=>[]) (fun i=>i≤l.length∧V=mRun (prev l i) (l.drop i)∧(0<i→∀ h:i-1<l.length,mOk l[i-1]=true)) (fun i=>l.length-i) 0 ⟨Nat.zero_le _,hV,fun h=>absurd h (Nat.lt_irrefl _)⟩ ?_ ?_
 ·(conv=>whnf);exact zent
 rintro i ⟨hi,hI,hP⟩
 rcases Nat.lt_or_ge i l.length with hlt|hge
 ·have hel:=mts_get hlt
  have ew:IntKind.i64.wrap ((i:Int)+1)=((i+1:Nat):Int):=by rw [IntWalk.i64_in _ (by omega)];omega
  have Hc:=check_fn l[i].n l[i].d
  have Hn:=tnamed_fn l[i].j
  have nj:l[i].j≤65535→0≤l[i].j→nmd l[i].j=true:=fun h1 h2=>by unfold nmd;simp [h1,h2]
  have nk:¬ l[i].j≤65535→nmd l[i].j=false:=fun h1=>by unfold nmd;simp [h1]
  rcases mRun_at hlt with ⟨e1,e2⟩|⟨e1,e2,h0,e3⟩|⟨e1,e2,e3⟩
  ·rw [e1] at hI
   subst hI
   have hb:¬ (chk l[i].n l[i].d=0∧0≤l[i].i∧l[i].i<l[i].j∧l[i].j≤65535):=fun h=>by rw [mOk_i.2 h] at e2;cases e2
   clear e1 e2 hP hV
   generalize l[i]=m at *
   obtain ⟨m1,m2,m3,m4⟩:=m
   simp only at hel Hc Hn nj nk hb
   generalize chk m1 m2=z at *
   by_cases h1:z=0
   ·subst h1
    by_cases h2:0≤m3
    ·by_cases h3:m3<m4
     ·have h4:¬ m4≤65535:=fun h=>hb ⟨rfl,h2,h3,h⟩
      rw [nk h4] at Hn
      exact zw
     ·clear Hn
      exact zw
    ·clear Hn
     exact zw
   ·clear Hn
    exact zw
  ·rw [e2] at hI
   subst hI
   obtain ⟨c1,c2,c3,c4⟩:=mOk_i.1 e1
   have hpk:=hP h0 (by omega)
   obtain ⟨d1,d2,d3,d4⟩:=mOk_i.1 hpk
   have Hb:=tbefore_fn d1 c1
   have ew2:IntKind.i64.wrap ((i:Int)-1)=((i-1:Nat):Int):=by rw [IntWalk.i64_in _ (by omega)];omega
   have hel2:(l.map Mt.c)[(IntKind.i64.wrap ((i:Int)-1)).toNat]? = some [i64 (l[i-1]'(by omega)).n,i64 (l[i-1]'(by omega)).d,i64 (l[i-1]'(by omega)).i,i64 (l[i-1]'(by omega)).j]:=by rw [ew2];exact mts_get (by omega)
   rw [c1] at Hc
   rw [nj c4 (by omega)] at Hn
   clear e1 e2 hP hV nj nk d1 d2 d3 d4 hpk c1
   generalize cfM (l[i-1]'(by omega)) l[i]=z at *
   generalize l[i-1]'(by omega)=q at *
   generalize l[i]=m at *
   obtain ⟨m1,m2,m3,m4⟩:=m
   obtain ⟨q1,q2,q3,q4⟩:=q
   simp only [Mt.dc] at hel hel2 Hc Hn Hb c2 c3 c4
   exact zw
  ·obtain ⟨c1,c2,c3,c4⟩:=mOk_i.1 e1
   rw [c1] at Hc
   rw [nj c4 (by omega)] at Hn
   have hN:i+1≤l.length∧V=mRun (prev l (i+1)) (l.drop (i+1))∧(0<i+1→∀ h:i+1-1<l.length,mOk l[i+1-1]=true):=⟨hlt,by rw [hI,e2],fun _ h=>by simpa using e1⟩
   by_cases h0:0<i
   ·have hpk:=hP h0 (by omega)
    obtain ⟨d1,d2,d3,d4⟩:=mOk_i.1 hpk
    have Hb:=tbefore_fn d1 c1
    have ez:=e3 h0
    have ew2:IntKind.i64.wrap ((i:Int)-1)=((i-1:Nat):Int):=by rw [IntWalk.i64_in _ (by omega)];omega
    have hel2:(l.map Mt.c)[(IntKind.i64.wrap ((i:Int)-1)).toNat]? = some [i64 (l[i-1]'(by omega)).n,i64 (l[i-1]'(by omega)).d,i64 (l[i-1]'(by omega)).i,i64 (l[i-1]'(by omega)).j]:=by rw [ew2];exact mts_get (by omega)
    clear e1 e2 e3 hP hV hI nj nk d1 d2 d3 d4 hpk c1
    generalize cfM (l[i-1]'(by omega)) l[i]=z at *
    generalize l[i-1]'(by omega)=q at *
    obtain ⟨m,hm⟩:∃ m,m=l[i]:=⟨_,rfl⟩
    rw [← hm] at hel Hc Hn Hb c2 c3 c4
    clear hm
    obtain ⟨m1,m2,m3,m4⟩:=m
    obtain ⟨q1,q2,q3,q4⟩:=q
    simp only [Mt.dc] at hel hel2 Hc Hn Hb c2 c3 c4
    repeat' ((conv=>whnf);first|(with_reducible first|refine br_t ?_|refine br_f ?_|refine za ?_|refine zg ?_)|refine zp ?_|refine zq ?_|(with_reducible first|refine bc (fun h => ?_) (fun h => ?_)|refine zt ?_|refine zf ?_|refine br_i (fun h => ?_) (fun h => ?_))|refine zg ?_|refine zi ?_|refine zb ?_)
    all_goals conv=>whnf
    refine ⟨i+1,hN,?_,by omega⟩
    rw [← ew]
    (conv=>whnf);exact zent
   ·clear e1 e2 e3 hP hV hI nj nk c1
    obtain ⟨m,hm⟩:∃ m,m=l[i]:=⟨_,rfl⟩
    rw [← hm] at hel Hc Hn c2 c3 c4
    clear hm
    obtain ⟨m1,m2,m3,m4⟩:=m
    simp only at hel Hc Hn c2 c3 c4
    repeat' ((conv=>whnf);first|(with_reducible first|refine br_t ?_|refine br_f ?_|refine za ?_|refine zg ?_)|refine zp ?_|refine zq ?_|(with_reducible first|refine bc (fun h => ?_) (fun h => ?_)|refine zt ?_|refine zf ?_|refine br_i (fun h => ?_) (fun h => ?_))|refine zg ?_|refine zi ?_|refine zb ?_)
    all_goals conv=>whnf
    refine ⟨i+1,hN,?_,by omega⟩
    rw [← ew]
    (conv=>whnf);exact zent
 ·obtain rfl:i=l.length:=by omega
  rw [List.drop_length] at hI
  have hVt:V=true:=by rw [hI];cases prev l l.length<;>rfl
  subst hVt
  repeat' ((conv=>whnf);first|(with_reducible first|refine br_t ?_|refine br_f ?_|refine za ?_|refine zg ?_)|refine zp ?_|refine zq ?_|(with_reducible first|refine bc (fun h => ?_) (fun h => ?_)|refine zt ?_|refine zf ?_|refine br_i (fun h => ?_) (fun h => ?_))|refine zg ?_|refine zi ?_|refine zb ?_)
  all_goals conv=>whnf
  all_goals first|rfl|exact r_bool (by simp [hll];omega)
end Go.Proofs.YtfkfficabeclcaaGreatDoor

namespace Go.Proofs.YtfkfficabeclcaaGreatDoor
open Go Go.RowKit Go.Sort Sx
set_option maxRecDepth 2000
set_option maxRecDepth 100000 in
set_option maxHeartbeats 4000000 in
theorem tCheck_fn (r:Rp) (hl0:r.ms.length≤1000000):FnOK Tryz.prog 11 [r.dc] (ret1 (rchk r)):=by
 obtain ⟨e,i,j,n,d,l⟩:=r
 simp only at hl0
 have hll:(l.map Mt.c).length=l.length:=List.length_map ..
 unfold rchk
 simp only [Rp.dc]
 by_cases he:e=0
 ·rw [if_neg (by simp [he])]
  subst he
  by_cases hl:l=[]
  ·subst hl
   rw [if_neg (by simp)]
   by_cases hd:d=0
   ·rw [if_neg (by simp [hd])]
    subst hd
    have S:=oSame_fn ⟨0,i,j,n,0,[]⟩ rp0
    by_cases hz:(⟨0,i,j,n,0,[]⟩:Rp)=rp0
    ·rw [decide_eq_true hz] at S
     rw [if_pos hz]
     simp only [Rp.dc,rp0] at S
     replace S:FnOK Tryz.prog 42 [.agg [i64 0,i64 i,i64 j,i64 n,i64 0,.list 4 []],.agg [i64 0,i64 0,i64 0,i64 0,i64 0,.list 4 []]] (.c (.one (bol true))):=S
     show FnOK Tryz.prog 11 [.agg [i64 0,i64 i,i64 j,i64 n,i64 0,.list 4 []]] _
     refine fn_ok (by kernel_rfl) ty_ok Tryz.func11 rfl (fun _ _=>Tryz.call11 _ _) rfl ?_
     intro hw
     clear hw
     exact zw
    ·rw [decide_eq_false hz] at S
     rw [if_neg hz]
     simp only [Rp.dc,rp0] at S
     replace S:FnOK Tryz.prog 42 [.agg [i64 0,i64 i,i64 j,i64 n,i64 0,.list 4 []],.agg [i64 0,i64 0,i64 0,i64 0,i64 0,.list 4 []]] (.c (.one (bol false))):=S
     show FnOK Tryz.prog 11 [.agg [i64 0,i64 i,i64 j,i64 n,i64 0,.list 4 []]] _
     refine fn_ok (by kernel_rfl) ty_ok Tryz.func11 rfl (fun _ _=>Tryz.call11 _ _) rfl ?_
     intro hw
     clear hw
     exact zw
   ·rw [if_pos (by simpa using hd)]
    have S:=oSame_fn ⟨0,i,j,n,d,[]⟩ ⟨0,i,j,n,d,[]⟩
    rw [decide_eq_true rfl] at S
    simp only [Rp.dc] at S
    replace S:FnOK Tryz.prog 42 [.agg [i64 0,i64 i,i64 j,i64 n,i64 d,.list 4 []],.agg [i64 0,i64 i,i64 j,i64 n,i64 d,.list 4 []]] (.c (.one (bol true))):=S
    have Hc:=check_fn n d
    have Hi:=tnamed_fn i
    have Hj:=tnamed_fn j
    by_cases c1:chk n d=0
    ·rw [c1] at Hc
     by_cases c2:nmd i=true
     ·rw [c2] at Hi
      by_cases c3:j=0
      ·rw [if_pos ⟨c1,c2,.inl c3⟩]
       subst c3
       show FnOK Tryz.prog 11 [.agg [i64 0,i64 i,i64 0,i64 n,i64 d,.list 4 []]] _
       refine fn_ok (by kernel_rfl) ty_ok Tryz.func11 rfl (fun _ _=>Tryz.call11 _ _) rfl ?_
       intro hw
       clear hw
       exact zw
      ·by_cases c4:i<j
       ·by_cases c5:nmd j=true
        ·rw [c5] at Hj
         by_cases c6:0≤n
         ·rw [if_pos ⟨c1,c2,.inr ⟨c4,c5,c6⟩⟩]
          show FnOK Tryz.prog 11 [.agg [i64 0,i64 i,i64 j,i64 n,i64 d,.list 4 []]] _
          refine fn_ok (by kernel_rfl) ty_ok Tryz.func11 rfl (fun _ _=>Tryz.call11 _ _) rfl ?_
          intro hw
          clear hw
          exact zw
         ·rw [if_neg (fun h=>c6 (h.2.2.resolve_left c3).2.2)]
          show FnOK Tryz.prog 11 [.agg [i64 0,i64 i,i64 j,i64 n,i64 d,.list 4 []]] _
          refine fn_ok (by kernel_rfl) ty_ok Tryz.func11 rfl (fun _ _=>Tryz.call11 _ _) rfl ?_
          intro hw
          clear hw
          exact zw
        ·rw [if_neg (fun h=>c5 (h.2.2.resolve_left c3).2.1)]
         rw [show nmd j=false by simpa using c5] at Hj
         show FnOK Tryz.prog 11 [.agg [i64 0,i64 i,i64 j,i64 n,i64 d,.list 4 []]] _
         refine fn_ok (by kernel_rfl) ty_ok Tryz.func11 rfl (fun _ _=>Tryz.call11 _ _) rfl ?_
         intro hw
         clear hw
         exact zw
       ·rw [if_neg (fun h=>c4 (h.2.2.resolve_left c3).1)]
        show FnOK Tryz.prog 11 [.agg [i64 0,i64 i,i64 j,i64 n,i64 d,.list 4 []]] _
        refine fn_ok (by kernel_rfl) ty_ok Tryz.func11 rfl (fun _ _=>Tryz.call11 _ _) rfl ?_
        intro hw
        clear hw
        exact zw
     ·rw [if_neg (fun h=>c2 h.2.1)]
      rw [show nmd i=false by simpa using c2] at Hi
      show FnOK Tryz.prog 11 [.agg [i64 0,i64 i,i64 j,i64 n,i64 d,.list 4 []]] _
      refine fn_ok (by kernel_rfl) ty_ok Tryz.func11 rfl (fun _ _=>Tryz.call11 _ _) rfl ?_
      intro hw
      clear hw
      exact zw
    ·rw [if_neg (fun h=>c1 h.1)]
     generalize chk n d=z at *
     show FnOK Tryz.prog 11 [.agg [i64 0,i64 i,i64 j,i64 n,i64 d,.list 4 []]] _
     refine fn_ok (by kernel_rfl) ty_ok Tryz.func11 rfl (fun _ _=>Tryz.call11 _ _) rfl ?_
     intro hw
     clear hw
     exact zw
  ·rw [if_pos (by simpa using hl)]
   have hp:0<l.length:=List.length_pos_iff.2 hl
   have M:=tmeetings_fn l hl0
   have S:=oSame_fn ⟨0,i,j,n,d,l⟩ ⟨0,0,0,0,0,l⟩
   simp only [Rp.dc] at S ⊢
   by_cases c1:mtR l=true
   ·rw [c1] at M
    by_cases c2:(⟨0,i,j,n,d,l⟩:Rp)=⟨0,0,0,0,0,l⟩
    ·rw [if_pos ⟨c1,c2⟩]
     rw [decide_eq_true c2] at S
     refine fn_ok (by kernel_rfl) ty_ok Tryz.func11 rfl (fun _ _=>Tryz.call11 _ _) rfl ?_
     intro hw
     clear hw
     exact zw
    ·rw [if_neg (fun h=>c2 h.2)]
     rw [decide_eq_false c2] at S
     refine fn_ok (by kernel_rfl) ty_ok Tryz.func11 rfl (fun _ _=>Tryz.call11 _ _) rfl ?_
     intro hw
     clear hw
     exact zw
   ·rw [if_neg (fun h=>c1 h.1)]
    rw [show mtR l=false by simpa using c1] at M
    refine fn_ok (by kernel_rfl) ty_ok Tryz.func11 rfl (fun _ _=>Tryz.call11 _ _) rfl ?_
    intro hw
    clear hw
    exact zw
 ·rw [if_pos (by simpa using he)]
  have S:=oSame_fn ⟨e,i,j,n,d,l⟩ (rpE e)
  replace S:FnOK Tryz.prog 42 [.agg [i64 e,i64 i,i64 j,i64 n,i64 d,mts l],.agg [i64 e,i64 0,i64 0,i64 0,i64 0,.list 4 []]] (.c (.one (bol (decide ((⟨e,i,j,n,d,l⟩:Rp)=rpE e))))):=S
  by_cases c1:1≤e
  ·by_cases c2:e≤99
   ·by_cases c3:(⟨e,i,j,n,d,l⟩:Rp)=rpE e
    ·rw [if_pos ⟨c1,c2,c3⟩]
     rw [decide_eq_true c3] at S
     refine fn_ok (by kernel_rfl) ty_ok Tryz.func11 rfl (fun _ _=>Tryz.call11 _ _) rfl ?_
     intro hw
     clear hw
     exact zw
    ·rw [if_neg (fun h=>c3 h.2.2)]
     rw [decide_eq_false c3] at S
     refine fn_ok (by kernel_rfl) ty_ok Tryz.func11 rfl (fun _ _=>Tryz.call11 _ _) rfl ?_
     intro hw
     clear hw
     exact zw
   ·rw [if_neg (fun h=>c2 h.2.1)]
    refine fn_ok (by kernel_rfl) ty_ok Tryz.func11 rfl (fun _ _=>Tryz.call11 _ _) rfl ?_
    intro hw
    clear hw
    exact zw
  ·rw [if_neg (fun h=>c1 h.1)]
   refine fn_ok (by kernel_rfl) ty_ok Tryz.func11 rfl (fun _ _=>Tryz.call11 _ _) rfl ?_
   intro hw
   clear hw
   exact zw
end Go.Proofs.YtfkfficabeclcaaGreatDoor

namespace Go.Proofs.YtfkfficabeclcaaGreatDoor
open Go.RowKit Go.Sort Sx Go.Lib
def endL (l:List Str):Str:=l.flatMap fun x=>x++[10]
theorem spl_end:∀ {l:List Str},(∀ x∈l,(10:UInt8) ∉ x)→spl 10 (endL l)=l++[[]]
 | [],_=>rfl
 | x::l,h=>by
  have e:endL (x::l)=x++10::endL l:=by unfold endL;rw [List.flatMap_cons,List.append_assoc];rfl
  rw [e,spl_at _ (h x (List.mem_cons_self ..)),spl_end (fun y hy=>h y (List.mem_cons_of_mem _ hy))];rfl
theorem itoa_no10 (n:Int):(10:UInt8) ∉ itoa n:=itoa_no (by decide) (by decide)
theorem dec_len_le {u k:Nat} (hk:1≤k) (h:u<10 ^ k):(decDigits u).length≤k:=by
 rw [decDigits_length]
 have:∀ (j u:Nat),u<10 ^ (j+1)→nDigits u≤j+1:=by
  intro j
  induction j with
  | zero=>intro u hu;rw [nDigits_small (by simpa using hu)];exact Nat.le_refl _
  | succ j ih2 =>
   intro u hu
   by_cases h10:u<10
   ·rw [nDigits_small h10];omega
   ·rw [nDigits_big h10]
    have:=ih2 (u / 10) (by rw [Nat.pow_succ] at hu;omega)
    omega
 obtain ⟨j,rfl⟩:∃ j,k=j+1:=⟨k-1,by omega⟩
 exact this j u h
theorem itoa_len_le {n:Int} {k:Nat} (hk:1≤k) (h:n.natAbs<10 ^ k):(itoa n).length≤k+1:=by
 unfold itoa
 split
 ·rw [List.length_cons];have:=dec_len_le hk h;omega
 ·have:=dec_len_le (u:=n.toNat) hk (Nat.lt_of_le_of_lt (by omega) h)
  omega
end Go.Proofs.YtfkfficabeclcaaGreatDoor

namespace Go.Proofs.YtfkfficabeclcaaGreatDoor
open Go.RowKit Go.Sort Sx Go.Lib
def wErr:Str:=[101,114,114,111,114]
def wMeet:Str:=[109,101,101,116,105,110,103,115]
def wDone:Str:=[100,111,110,101]
def wLeader:Str:=[108,101,97,100,101,114]
def wPair:Str:=[112,97,105,114]
def mWords (m:Mt):List Str:=[(numV m.n m.d).1,itoa m.i,itoa m.j]
def rWords (r:Rp):List Str :=
 if r.e≠0 then [wErr,itoa r.e]
 else if r.ms≠[] then wMeet::r.ms.flatMap mWords
 else if r.d=0 then [wDone]
 else if r.j=0 then [wLeader,itoa r.i,(numV r.n r.d).1]
 else [wPair,itoa r.i,itoa r.j,(numV r.n r.d).1]
def rText (r:Rp):Str:=joinS (rWords r)
def replyV (r:Rp):Str × Int:=if rchk r=0 then (rText r,0) else ([],8)
def atoV (s:Str):Option Int:=match atoiAll s with|.ok v=>some v|_=>none
def frV (s:Str):Option (Int × Int):=if (readV s).2=0 then some (readV s).1 else none
def rdMs:List Str→Option (List Mt)
 | []=>some []
 | a::b::c::r=>match frV a,atoV b,atoV c with
  | some q,some i,some j=>(rdMs r).map fun l=>⟨q.1,q.2,i,j⟩::l
  | _,_,_=>none
 | _=>none
def rdWP (w0:Str) (t:List Str):Option Rp :=
 if w0=wDone then some rp0
 else if w0=wErr then (match t with|[a]=>(atoV a).map fun n=>rpE n|_=>none)
 else if w0=wLeader then (match t with|[a,b]=>(match atoV a,frV b with|some i,some q=>some ⟨0,i,0,q.1,q.2,[]⟩|_,_=>none)|_=>none)
 else if w0=wPair then (match t with|[a,b,c]=>(match atoV a,atoV b,frV c with|some i,some j,some q=>some ⟨0,i,j,q.1,q.2,[]⟩|_,_,_=>none)|_=>none)
 else if w0=wMeet then (rdMs t).map fun l=>⟨0,0,0,0,0,l⟩
 else none
def backR (s:Str) (r:Option Rp):Rp × Int:=match r with|some r=>if rchk r=0∧rText r=s then (r,0) else (rp0,12)|none=>(rp0,12)
def rrdP (s:Str):Rp × Int:=backR s (rdWP ((spl 32 s).headD []) (spl 32 s).tail)
def rreadP (s:Str):Rp × Int:=if 110000<s.length then (rp0,4) else rrdP s
theorem backR_ok {s:Str} {m:Option Rp} (h:(backR s m).2=0):rchk (backR s m).1=0∧rText (backR s m).1=s:=by
 unfold backR at h ⊢
 cases m with
 | none=>cases h
 | some m =>
  dsimp only at h ⊢
  split at h
  ·rename_i c;rw [if_pos c];exact c
  ·cases h
theorem backR_no {s:Str} {m:Option Rp} (h:(backR s m).2≠0):backR s m=(rp0,12):=by
 unfold backR at h ⊢
 cases m with
 | none=>rfl
 | some m =>
  dsimp only at h ⊢
  split at h
  ·exact absurd rfl h
  ·rename_i c;rw [if_neg c]
theorem backR_of {s:Str} {m:Rp} (h:rchk m=0) (e:rText m=s):backR s (some m)=(m,0):=by
 unfold backR;dsimp only;rw [if_pos ⟨h,e⟩]
theorem spl_join:∀ {l:List Str},l≠[]→(∀ x∈l,(32:UInt8) ∉ x)→spl 32 (joinS l)=l
 | [],h,_=>absurd rfl h
 | [a],_,h=>by
  show spl 32 a=[a]
  exact spl_no (h a (by simp))
 | a::b::l,_,h=>by
  show spl 32 (a++32::joinS (b::l))=_
  rw [spl_at _ (h a (by simp)),spl_join (l:=b::l) (by simp) fun x hx=>h x (List.mem_cons_of_mem _ hx)]
theorem num_no32 (n d:Int):(32:UInt8) ∉ (numV n d).1:=by
 unfold numV
 split
 ·exact wrt_no32 n d
 ·simp
theorem rWords_ne (r:Rp):rWords r≠[]:=by
 unfold rWords
 repeat' split
 all_goals simp
theorem rWords_no (r:Rp):∀ x∈rWords r,(32:UInt8) ∉ x:=by
 intro x hx
 have w1:(32:UInt8) ∉ wErr:=by decide
 have w2:(32:UInt8) ∉ wMeet:=by decide
 have w3:(32:UInt8) ∉ wDone:=by decide
 have w4:(32:UInt8) ∉ wLeader:=by decide
 have w5:(32:UInt8) ∉ wPair:=by decide
 unfold rWords at hx
 split at hx
 ·rcases List.mem_cons.1 hx with rfl|hx
  ·exact w1
  ·obtain rfl:=List.mem_singleton.1 hx;exact itoa_no32 _
 split at hx
 ·rcases List.mem_cons.1 hx with rfl|hx
  ·exact w2
  ·obtain ⟨m,_,hm⟩:=List.mem_flatMap.1 hx
   unfold mWords at hm
   simp only [List.mem_cons,List.not_mem_nil,or_false] at hm
   rcases hm with rfl|rfl|rfl
   ·exact num_no32 _ _
   ·exact itoa_no32 _
   ·exact itoa_no32 _
 split at hx
 ·obtain rfl:=List.mem_singleton.1 hx;exact w3
 split at hx
 ·simp only [List.mem_cons,List.not_mem_nil,or_false] at hx
  rcases hx with rfl|rfl|rfl
  ·exact w4
  ·exact itoa_no32 _
  ·exact num_no32 _ _
 ·simp only [List.mem_cons,List.not_mem_nil,or_false] at hx
  rcases hx with rfl|rfl|rfl|rfl
  ·exact w5
  ·exact itoa_no32 _
  ·exact itoa_no32 _
  ·exact num_no32 _ _
theorem spl_text (r:Rp):spl 32 (rText r)=rWords r:=spl_join (rWords_ne r) (rWords_no r)
theorem dec_ne2 (u:Nat):∃ b r,decDigits u=b::r∧b≠45∧b≠43:=by
 have hd:=decFrom_dec u
 cases h:decDigits u with
 | nil =>
  have:=decDigits_length u
  rw [h] at this
  have h2:0<nDigits u:=by
   by_cases h10:u<10
   ·rw [nDigits_small h10];omega
   ·rw [nDigits_big (by omega)];omega
  simp at this
  omega
 | cons b r =>
  rw [h,decFrom] at hd
  refine ⟨b,r,rfl,?_,?_⟩
  ·rintro rfl;cases hd
  ·rintro rfl;cases hd
theorem decNat_dec (u:Nat):decNat (decDigits u)=some u:=by
 obtain ⟨b,r,h,_⟩:=dec_ne2 u
 unfold decNat
 rw [if_neg (by rw [h];simp),decFrom_dec]
theorem atoi_itoa (n:Int):atoi (itoa n)=some n:=by
 unfold itoa
 split
 ·rename_i h
  unfold atoi
  simp only [beq_self_eq_true,if_true]
  rw [decNat_dec]
  simp
  omega
 ·rename_i h
  obtain ⟨b,r,hb,h1,h2⟩:=dec_ne2 n.toNat
  have e:=decNat_dec n.toNat
  rw [hb] at e ⊢
  unfold atoi
  simp only [beq_iff_eq,h1,h2,if_false]
  rw [e]
  simp
  omega
theorem atoV_itoa {n:Int} (h:n.natAbs<10 ^ 17):atoV (itoa n)=some n:=by
 have hl:=itoa_len_le (n:=n) (k:=17) (by decide) h
 unfold atoV
 rw [atoiAll_short _ (by omega),atoi_itoa]
 rfl
theorem atoV_id {n:Int} (h0:0≤n) (h1:n≤65535):atoV (itoa n)=some n:=atoV_itoa (by rw [show (10:Nat) ^ 17=100000000000000000 by decide];omega)
end Go.Proofs.YtfkfficabeclcaaGreatDoor

namespace Go.Proofs.YtfkfficabeclcaaGreatDoor
open Go.RowKit Go.Sort Sx Go.Lib
def fit2 (n d:Int):Prop:=fitI n∧fitI d
def rin (r:Rp):Prop:=fit2 r.n r.d∧∀ m∈r.ms,fit2 m.n m.d
theorem frV_of {n d:Int} (h:chk n d=0) (hf:fit2 n d):frV (numV n d).1=some (n,d):=by
 unfold frV
 rw [show (numV n d).1=wrtV n d by unfold numV;rw [if_pos h],readV_is.of n d h hf.1 hf.2]
 rfl
theorem frV_fit {s:Str} {q:Int × Int} (h:frV s=some q):fit2 q.1 q.2:=by
 unfold frV at h
 split at h
 ·rename_i h0
  injection h with h
  subst h
  exact readV_is.fit s h0
 ·cases h
theorem mRun_ok:∀ {p:Option Mt} {l:List Mt},mRun p l=true→∀ m∈l,mOk m=true
 | _,[],_,m,h=>by cases h
 | none,x::r,h,m,hm=>by
  unfold mRun at h
  simp only [Bool.and_eq_true] at h
  rcases List.mem_cons.1 hm with rfl|hm
  ·exact h.1
  ·exact mRun_ok h.2 m hm
 | some p,x::r,h,m,hm=>by
  unfold mRun at h
  simp only [Bool.and_eq_true] at h
  rcases List.mem_cons.1 hm with rfl|hm
  ·exact h.1.1
  ·exact mRun_ok h.2 m hm
theorem rdMs_of:∀ {l:List Mt},(∀ m∈l,mOk m=true)→(∀ m∈l,fit2 m.n m.d)→rdMs (l.flatMap mWords)=some l
 | [],_,_=>rfl
 | m::l,h,hf=>by
  obtain ⟨c1,c2,c3,c4⟩:=mOk_i.1 (h m (List.mem_cons_self ..))
  have ih:=rdMs_of (l:=l) (fun x hx=>h x (List.mem_cons_of_mem _ hx)) fun x hx=>hf x (List.mem_cons_of_mem _ hx)
  rw [List.flatMap_cons]
  show rdMs ((numV m.n m.d).1::itoa m.i::itoa m.j::l.flatMap mWords)=_
  rw [rdMs,frV_of c1 (hf m (List.mem_cons_self ..)),atoV_id c2 (by omega),atoV_id (by omega) c4,ih]
  rfl
theorem rchk_cases {r:Rp} (h:rchk r=0):(1≤r.e∧r.e≤99∧r=rpE r.e)∨(r.ms≠[]∧mtR r.ms=true∧r=⟨0,0,0,0,0,r.ms⟩)∨(r.d≠0∧chk r.n r.d=0∧0≤r.i∧r.i≤65535∧r=⟨0,r.i,0,r.n,r.d,[]⟩)∨(r.d≠0∧chk r.n r.d=0∧0≤r.i∧r.i<r.j∧r.j≤65535∧0≤r.n∧r=⟨0,r.i,r.j,r.n,r.d,[]⟩)∨r=rp0:=by
 obtain ⟨e,i,j,n,d,l⟩:=r
 unfold rchk at h
 simp only at h ⊢
 split at h
 ·split at h
  ·rename_i hc;exact .inl hc
  ·omega
 rename_i he
 have he:e=0:=Decidable.not_not.1 he
 subst he
 split at h
 ·rename_i hl
  split at h
  ·rename_i hc;exact .inr (.inl ⟨hl,hc.1,hc.2⟩)
  ·omega
 rename_i hl
 have hl:l=[]:=Decidable.not_not.1 hl
 subst hl
 split at h
 ·rename_i hd
  split at h
  ·rename_i hc
   obtain ⟨c1,c2,c3⟩:=hc
   unfold nmd at c2
   simp only [Bool.and_eq_true,decide_eq_true_eq] at c2
   rcases c3 with rfl|⟨c4,c5,c6⟩
   ·exact .inr (.inr (.inl ⟨hd,c1,c2.1,c2.2,rfl⟩))
   ·unfold nmd at c5
    simp only [Bool.and_eq_true,decide_eq_true_eq] at c5
    exact .inr (.inr (.inr (.inl ⟨hd,c1,c2.1,c4,c5.2,c6,rfl⟩)))
  ·omega
 ·split at h
  ·rename_i hc;exact .inr (.inr (.inr (.inr hc)))
  ·omega
end Go.Proofs.YtfkfficabeclcaaGreatDoor

namespace Go.Proofs.YtfkfficabeclcaaGreatDoor
open Go.RowKit Go.Sort Sx Go.Lib
theorem words_e {e:Int} (h:e≠0):rWords (rpE e)=[wErr,itoa e]:=if_pos h
theorem words_m {l:List Mt} (h:l≠[]):rWords ⟨0,0,0,0,0,l⟩=wMeet::l.flatMap mWords:=by
 unfold rWords
 rw [if_neg (by simp),if_pos h]
theorem words_l {i n d:Int} (h:d≠0):rWords ⟨0,i,0,n,d,[]⟩=[wLeader,itoa i,(numV n d).1]:=by
 unfold rWords
 rw [if_neg (by simp),if_neg (by simp),if_neg h,if_pos rfl]
theorem words_p {i j n d:Int} (h:d≠0) (hj:j≠0):rWords ⟨0,i,j,n,d,[]⟩=[wPair,itoa i,itoa j,(numV n d).1]:=by
 unfold rWords
 rw [if_neg (by simp),if_neg (by simp),if_neg h,if_neg hj]
theorem rdWP_of {r:Rp} (h:rchk r=0) (hf:rin r):rdWP ((rWords r).headD []) (rWords r).tail=some r:=by
 rcases rchk_cases h with ⟨h1,h2,h3⟩|⟨h1,h2,h3⟩|⟨h0,h1,h2,h3,h4⟩|⟨h0,h1,h2,h3,h4,h5,h6⟩|h1
 ·rw [h3,words_e (by omega)]
  show rdWP wErr [itoa r.e]=_
  unfold rdWP
  rw [if_neg (by decide),if_pos rfl]
  show (atoV (itoa r.e)).map _=_
  rw [atoV_id (by omega) (by omega)]
  rfl
 ·have hm:=hf.2
  rw [h3,words_m h1]
  show rdWP wMeet (r.ms.flatMap mWords)=_
  unfold rdWP
  rw [if_neg (by decide),if_neg (by decide),if_neg (by decide),if_neg (by decide),if_pos rfl,rdMs_of (mRun_ok (by unfold mtR at h2;simp only [Bool.and_eq_true] at h2;exact h2.1)) hm]
  rfl
 ·have hm:=hf.1
  rw [h4,words_l h0]
  show rdWP wLeader [itoa r.i,(numV r.n r.d).1]=_
  unfold rdWP
  rw [if_neg (by decide),if_neg (by decide),if_pos rfl]
  show (match atoV (itoa r.i),frV (numV r.n r.d).1 with|some i,some q=>_|_,_=>_)=_
  rw [atoV_id h2 h3,frV_of h1 hm]
 ·have hm:=hf.1
  rw [h6,words_p h0 (by omega)]
  show rdWP wPair [itoa r.i,itoa r.j,(numV r.n r.d).1]=_
  unfold rdWP
  rw [if_neg (by decide),if_neg (by decide),if_neg (by decide),if_pos rfl]
  show (match atoV (itoa r.i),atoV (itoa r.j),frV (numV r.n r.d).1 with|some i,some j,some q=>_|_,_,_=>_)=_
  rw [atoV_id h2 (by omega),atoV_id (by omega) h4,frV_of h1 hm]
 ·subst h1;rfl
theorem fit2_0:fit2 0 0:=by unfold fit2 fitI;omega
theorem rin_e (e:Int):rin (rpE e):=⟨fit2_0,fun m h=>by cases h⟩
theorem rdMs_fit:∀ {w:List Str} {l:List Mt},rdMs w=some l→∀ m∈l,fit2 m.n m.d
 | [],l,h=>by rw [rdMs] at h;injection h with h;subst h;intro m hm;cases hm
 | [_],l,h=>by cases h
 | [_,_],l,h=>by cases h
 | a::b::c::r,l,h=>by
  rw [rdMs] at h
  cases ha:frV a with
  | none=>rw [ha] at h;cases h
  | some q =>
   cases hb:atoV b with
   | none=>rw [ha,hb] at h;cases h
   | some i =>
    cases hc:atoV c with
    | none=>rw [ha,hb,hc] at h;cases h
    | some j =>
     rw [ha,hb,hc] at h
     cases hr:rdMs r with
     | none=>rw [hr] at h;cases h
     | some l' =>
      rw [hr] at h
      injection h with h
      subst h
      intro m hm
      rcases List.mem_cons.1 hm with rfl|hm
      ·exact frV_fit ha
      ·exact rdMs_fit hr m hm
theorem rdWP_rin {w0:Str} {t:List Str} {r:Rp} (h:rdWP w0 t=some r):rin r:=by
 unfold rdWP at h
 split at h
 ·injection h with h;subst h;exact rin_e 0
 split at h
 ·match t,h with
  | [a],h =>
   cases ha:atoV a with
   | none=>simp only [ha] at h;cases h
   | some n=>simp only [ha] at h;injection h with h;subst h;exact rin_e n
 split at h
 ·match t,h with
  | [a,b],h =>
   cases ha:atoV a with
   | none=>simp only [ha] at h;cases h
   | some i =>
    cases hb:frV b with
    | none=>simp only [ha,hb] at h;cases h
    | some q=>simp only [ha,hb] at h;injection h with h;subst h;exact ⟨frV_fit hb,fun m h=>by cases h⟩
 split at h
 ·match t,h with
  | [a,b,c],h =>
   cases ha:atoV a with
   | none=>simp only [ha] at h;cases h
   | some i =>
    cases hb:atoV b with
    | none=>simp only [ha,hb] at h;cases h
    | some j =>
     cases hc:frV c with
     | none=>simp only [ha,hb,hc] at h;cases h
     | some q=>simp only [ha,hb,hc] at h;injection h with h;subst h;exact ⟨frV_fit hc,fun m h=>by cases h⟩
 split at h
 ·cases hm:rdMs t with
  | none=>rw [hm] at h;cases h
  | some l=>rw [hm] at h;injection h with h;subst h;exact ⟨fit2_0,rdMs_fit hm⟩
 ·cases h
theorem backR_rin {s:Str} {m:Option Rp} (hm:∀ r,m=some r→rin r):rin (backR s m).1:=by
 unfold backR
 cases m with
 | none=>exact rin_e 0
 | some r =>
  dsimp only
  split
  ·exact hm r rfl
  ·exact rin_e 0
theorem rrdP_is:Reads rText (fun r=>rchk r=0∧rin r) rp0 rrdP:=by
 refine ⟨fun s h => ?_,fun s h=>backR_no h,fun r hr => ?_⟩
 ·obtain ⟨h1,h2⟩:=backR_ok h
  exact ⟨⟨h1,backR_rin fun r hr=>rdWP_rin hr⟩,h2⟩
 ·unfold rrdP
  rw [spl_text,rdWP_of hr.1 hr.2]
  exact backR_of hr.1 rfl
end Go.Proofs.YtfkfficabeclcaaGreatDoor

namespace Go.Proofs.YtfkfficabeclcaaGreatDoor
open Go Go.RowKit Go.Sort Sx
open Go.Lib hiding intOf
end Go.Proofs.YtfkfficabeclcaaGreatDoor

namespace Go.Proofs.YtfkfficabeclcaaGreatDoor
open Go Go.RowKit Go.Sort Sx
open Go.Lib hiding intOf
set_option maxRecDepth 2000
end Go.Proofs.YtfkfficabeclcaaGreatDoor

namespace Go.Proofs.YtfkfficabeclcaaGreatDoor
open Go Go.RowKit Go.Sort Sx
open Go.Lib hiding intOf
set_option maxRecDepth 2000
theorem numV_len {n d:Int} (h1:in64 n) (h2:in64 d):(numV n d).1.length≤43:=by
 unfold numV
 split
 ·exact wrtV_le h1 h2
 ·simp
end Go.Proofs.YtfkfficabeclcaaGreatDoor

namespace Go.Proofs.YtfkfficabeclcaaGreatDoor
open Go Go.RowKit Go.Sort Sx
set_option maxRecDepth 2000
def nxtV (l:List Pt) (n e:Int):Mt × Int:=if h:bcnt (allM l) n e<(allM l).length then ((allM l)[bcnt (allM l) n e],0) else (⟨0,0,0,0⟩,6)
abbrev retNx (x:Mt × Int):DV:=.tup [x.1.dc,.one (i64 x.2)]
theorem mcheck1_fn {l:List Pt} {n e:Int} (h1:fchk l=0) (h2:chk n e=0):FnOK Tryz.prog 155 [fld l,.one (.list 2 [[i64 n,i64 e]])] (ret1 0):=by
 have H1:=fCheck_fn l
 have H2:=check_fn n e
 rw [h1] at H1
 rw [h2] at H2
 have hel0:([[i64 n,i64 e]]:List (List D))[((0:Nat):Int).toNat]? = some [i64 n,i64 e]:=rfl
 have hlen:([[i64 n,i64 e]]:List (List D)).length=1:=rfl
 refine fn_ok (by kernel_rfl) ty_ok Tryz.func155 rfl (fun _ _=>Tryz.call155 _ _) rfl ?_
 intro hw
 clear hw
 repeat' ((conv=>whnf);first|(with_reducible first|refine br_t ?_|refine br_f ?_|refine za ?_|refine zg ?_)|refine zp ?_|refine zq ?_|(with_reducible first|refine bc (fun h => ?_) (fun h => ?_)|refine zt ?_|refine zf ?_|refine br_i (fun h => ?_) (fun h => ?_))|refine zg ?_|refine zi ?_|refine zb ?_)
 refine loop_J (by kernel_rfl) ty_ok (σ:=Nat) (fun i=>[(16,sV (.int .i64 i))]) (fun _=>[]) (fun i=>i=0∨i=1) (fun i=>1-i) 0 (.inl rfl) ?_ ?_
 ·(conv=>whnf);exact zent
 intro i hi
 rcases hi with rfl|rfl
 ·repeat' ((conv=>whnf);first|(with_reducible first|refine br_t ?_|refine br_f ?_|refine za ?_|refine zg ?_)|refine zp ?_|refine zq ?_|(with_reducible first|refine bc (fun h => ?_) (fun h => ?_)|refine zt ?_|refine zf ?_|refine br_i (fun h => ?_) (fun h => ?_))|refine zg ?_|refine zi ?_|refine zb ?_)
  all_goals conv=>whnf
  refine ⟨1,.inr rfl,?_,by show 1-1<1-0;decide⟩
  (conv=>whnf);exact zent
 ·exact zw
theorem mNext_fn {l:List Pt} {n e:Int} (h1:fchk l=0) (h2:chk n e=0):FnOK Tryz.prog 94 [fld l,rat n e] (retNx (nxtV l n e)):=by
 have H1:=mcheck1_fn h1 h2
 have H2:=mall_fn h1
 have hasc:=allM_asc h1
 have hlen:(allM l).length≤4096:=by rw [msrt_len];exact outs_len2 (fchk_ok h1).1
 have H3:=mbehind_fn (allM l) n e hasc h2 (by omega)
 have hb:=bcnt_le (allM l) n e
 unfold nxtV
 generalize allM l=L at *
 have hll:(L.map Mt.c).length=L.length:=List.length_map ..
 by_cases h:bcnt L n e<L.length
 ·rw [dif_pos h]
  have hel:=mts_get h
  generalize L[bcnt L n e]=m at *
  generalize bcnt L n e=a at *
  obtain ⟨m1,m2,m3,m4⟩:=m
  simp only [retNx,Mt.dc] at *
  refine fn_ok (by kernel_rfl) ty_ok Tryz.func94 rfl (fun _ _=>Tryz.call94 _ _) rfl ?_
  intro hw
  clear hw
  repeat' ((conv=>whnf);first|(with_reducible first|refine br_t ?_|refine br_f ?_|refine za ?_|refine zg ?_)|rw [List.length_map]|refine zp ?_|refine zq ?_|(with_reducible first|refine bc (fun h => ?_) (fun h => ?_)|refine zt ?_|refine zf ?_|refine br_i (fun h => ?_) (fun h => ?_))|refine zg ?_|refine zi ?_|refine zb ?_)
  all_goals conv=>whnf
  all_goals rfl
 ·rw [dif_neg h]
  generalize bcnt L n e=a at *
  simp only [retNx,Mt.dc]
  refine fn_ok (by kernel_rfl) ty_ok Tryz.func94 rfl (fun _ _=>Tryz.call94 _ _) rfl ?_
  intro hw
  clear hw
  repeat' ((conv=>whnf);first|(with_reducible first|refine br_t ?_|refine br_f ?_|refine za ?_|refine zg ?_)|rw [List.length_map]|refine zp ?_|refine zq ?_|(with_reducible first|refine bc (fun h => ?_) (fun h => ?_)|refine zt ?_|refine zf ?_|refine br_i (fun h => ?_) (fun h => ?_))|refine zg ?_|refine zi ?_|refine zb ?_)
  all_goals conv=>whnf
  all_goals rfl
end Go.Proofs.YtfkfficabeclcaaGreatDoor

namespace Go.Proofs.YtfkfficabeclcaaGreatDoor
open Go.RowKit Go.Sort Sx Go.Lib
def wTime:Str:=[116,105,109,101]
def wPts:Str:=[32,112,111,105,110,116,115]
def wClst:Str:=[99,108,111,115,101,115,116]
def wNext:Str:=[110,101,120,116]
def wClst0:Str:=[99,108,111,115,101,115,116,32,110,111,110,101]
def wNext0:Str:=[110,101,120,116,32,110,111,110,101]
def rowB (n d:Int) (k:Nat) (p:Pt):Str:=joinS [itoa ((k+1:Nat):Int),itoa p.id,(numV (plc p n d).1 (plc p n d).2).1,itoa p.b]
def rowsK (n d:Int) (L:List Pt):Nat→List Str
 | 0=>[]
 | k+1=>rowsK n d L k++(match L[k]? with|some p=>[rowB n d k p]|none=>[])
def headB (m:Md):Str:=joinS [wTime,(numV m.n m.d).1]++joinS [wPts,itoa (m.l.length:Int)]
def clsB (m:Md):Str:=if m.l.length<2 then wClst0 else joinS [wClst,itoa (closV m.l m.n m.d).1,itoa (closV m.l m.n m.d).2.1,(numV (closV m.l m.n m.d).2.2.1 (closV m.l m.n m.d).2.2.2.1).1]
def nxtB (m:Md):Str:=if (nxtV m.l m.n m.d).2=0 then joinS (wNext::mWords (nxtV m.l m.n m.d).1) else wNext0
def linesV (m:Md):List Str:=headB m::rowsK m.n m.d (srt m.n m.d m.l) m.l.length++[clsB m,nxtB m]
def nlS (l:List Str):Str:=l.flatMap fun s=>s++[10]
def stT (m:Md):Str:=nlS (linesV m)
def standV (m:Md):Str × Int:=if mchk m=0 then (stT m,0) else ([],mchk m)
theorem nlS_join:∀ {l:List Str},l≠[]→nlS l=joinC 10 l++[10]
 | [],h=>absurd rfl h
 | [a],_=>by simp [nlS,joinC]
 | a::b::l,_=>by
  have ih:=nlS_join (l:=b::l) (by simp)
  show a++[10]++nlS (b::l)=(a++10::joinC 10 (b::l))++[10]
  rw [ih]
  simp
theorem nlS_app (a b:List Str):nlS (a++b)=nlS a++nlS b:=by unfold nlS;rw [List.flatMap_append]
theorem rowsK_succ {n d:Int} {L:List Pt} {k:Nat} (h:k<L.length):rowsK n d L (k+1)=rowsK n d L k++[rowB n d k L[k]]:=by
 rw [rowsK,List.getElem?_eq_getElem h]
theorem rowsK_len (n d:Int) (L:List Pt):∀ k,k≤L.length→(rowsK n d L k).length=k
 | 0,_=>rfl
 | k+1,h=>by rw [rowsK_succ (by omega),List.length_append,rowsK_len n d L k (by omega)];rfl
theorem posP_mem {l:List Pt} {p:Pt} (hs:incr l=true) (hp:p∈l):has l p.id=true∧∃ h:pos l p.id<l.length,l[pos l p.id]=p:=by
 obtain ⟨k,hk,rfl⟩:=List.getElem_of_mem hp
 obtain ⟨s1,s2⟩:=pos_spec (id:=l[k].id) hs
 have h1:¬ pos l l[k].id<k:=fun h=>by
  have hlt:pos l l[k].id<l.length:=by omega
  have:=s2 _ hlt (Nat.le_refl _)
  have:=incr_lt hs _ _ hk h
  omega
 have h2:¬ k<pos l l[k].id:=fun h=>by have:=s1 k hk h;omega
 have e:pos l l[k].id=k:=by omega
 have e2:∃ h:pos l l[k].id<l.length,l[pos l l[k].id]=l[k]:=⟨by omega,by congr 1⟩
 obtain ⟨h3,h4⟩:=e2
 exact ⟨(has_pos hs).2 ⟨h3,by rw [h4]⟩,h3,h4⟩
theorem findV_mem {l:List Pt} {p:Pt} (h:fchk l=0) (hp:p∈l):findV l p.id=(p,0):=by
 obtain ⟨_,_,hs⟩:=fchk_ok h
 obtain ⟨h1,h2,h3⟩:=posP_mem hs hp
 unfold findV
 rw [if_pos h,if_pos h1,List.getElem?_eq_getElem h2,h3]
 rfl
end Go.Proofs.YtfkfficabeclcaaGreatDoor

namespace Go.Proofs.YtfkfficabeclcaaGreatDoor
open Go.RowKit Go.Sort Sx Go.Lib
def plcV (id:Int) (x:Int × Int) (v n d:Int):Option Pt :=
 if (mulV v 1 n d).2.2=0 then
  (if (subV x.1 x.2 (mulV v 1 n d).1 (mulV v 1 n d).2.1).2.2=0∧(subV x.1 x.2 (mulV v 1 n d).1 (mulV v 1 n d).2.1).2.1=1∧cpt id (subV x.1 x.2 (mulV v 1 n d).1 (mulV v 1 n d).2.1).1 v=0 then some ⟨id,(subV x.1 x.2 (mulV v 1 n d).1 (mulV v 1 n d).2.1).1,v⟩ else none)
 else none
def pcdP (n d:Int):List Str→Option Pt
 | [a,b,c,e]=>match atoV a,atoV b,frV c,atoV e with
  | some _,some id,some x,some v=>plcV id x v n d
  | _,_,_,_=>none
 | _=>none
def rdRws (f:List Str→Option Pt):List Str→Option (List Pt)
 | []=>some []
 | a::l=>match f (spl 32 a) with
  | some p=>(rdRws f l).map fun r=>p::r
  | none=>none
def idS (l:List Pt):List Pt:=l.mergeSort fun a b=>decide (a.id≤b.id)
theorem idS_perm (l:List Pt):(idS l).Perm l:=List.mergeSort_perm _ _
theorem idS_sorted (l:List Pt):(idS l).Pairwise fun a b=>a.id≤b.id:=by
 have h:=List.pairwise_mergeSort (le:=fun (a b:Pt)=>decide (a.id≤b.id)) (fun a b c h1 h2=>by simp only [decide_eq_true_eq] at *;omega) (fun a b=>by simp only [Bool.or_eq_true,decide_eq_true_eq];omega) l
 exact h.imp fun h=>of_decide_eq_true h
theorem incr_pair {l:List Pt} (h:incr l=true):l.Pairwise fun a b=>a.id≤b.id :=
 List.pairwise_iff_getElem.2 fun i j hi hj hij=>by have:=incr_lt h j i hj hij;omega
theorem apart_perm {l l':List Pt} (h:apart l) (hp:l'.Perm l):apart l':=fun p hp' q hq e=>h p (hp.mem_iff.1 hp') q (hp.mem_iff.1 hq) e
theorem idS_one {l l':List Pt} (hp:l'.Perm l) (hs:l'.Pairwise fun a b=>a.id≤b.id) (ha:apart l):l'=idS l:=by
 refine List.Perm.eq_of_pairwise (le:=fun a b:Pt=>a.id≤b.id) (fun a b h1 h2 h3 h4 => ?_) hs (idS_sorted l) (hp.trans (idS_perm l).symm)
 exact ha a (hp.mem_iff.1 h1) b ((idS_perm l).mem_iff.1 h2) (by omega)
theorem backS_apart {n d:Int} {l l':List Pt} (hp:l'.Perm l) (h:mchk ⟨n,d,l'⟩=0):apart l :=
 apart_perm (incr_apart (fchk_ok (mchk_ok h).2).2.2) hp.symm
def backS (s:Str) (r:Option (Int × Int × List Pt)):Md × Int:=match r with
 | some r=>if mchk ⟨r.1,r.2.1,idS r.2.2⟩=0∧stT ⟨r.1,r.2.1,idS r.2.2⟩=s then (⟨r.1,r.2.1,idS r.2.2⟩,0) else (⟨0,0,[]⟩,12)
 | none=>(⟨0,0,[]⟩,12)
theorem backS_any {s:Str} {n d:Int} {l l':List Pt} (hp:l'.Perm l) (hs:l'.Pairwise fun a b=>a.id≤b.id) :
  backS s (some (n,d,l))=if mchk ⟨n,d,l'⟩=0∧stT ⟨n,d,l'⟩=s then (⟨n,d,l'⟩,0) else (⟨0,0,[]⟩,12):=by
 unfold backS
 dsimp only
 by_cases ha:apart l
 ·rw [idS_one hp hs ha]
 ·rw [if_neg (fun h=>ha (backS_apart (idS_perm l) h.1)),if_neg (fun h=>ha (backS_apart hp h.1))]
def srdG (rd:Str→Option (Int × Int)) (f:Int→Int→List Str→Option Pt) (s:Str):Option (Int × Int × List Pt) :=
 if (spl 10 s).length<4∨68<(spl 10 s).length∨(spl 32 ((spl 10 s).headD [])).length≠4 then none
 else match rd ((spl 32 ((spl 10 s).headD [])).getD 1 []) with
  | some q=>(rdRws (f q.1 q.2) (((spl 10 s).take ((spl 10 s).length-3)).drop 1)).map fun l=>(q.1,q.2,l)
  | none=>none
def srdP (s:Str):Md × Int:=backS s (srdG frV pcdP s)
def sreadP (s:Str):Md × Int:=if 110000<s.length then (⟨0,0,[]⟩,4) else srdP s
theorem backS_ok {s:Str} {m:Option (Int × Int × List Pt)} (h:(backS s m).2=0):mchk (backS s m).1=0∧stT (backS s m).1=s:=by
 unfold backS at h ⊢
 cases m with
 | none=>cases h
 | some m =>
  dsimp only at h ⊢
  split at h
  ·rename_i c;rw [if_pos c];exact c
  ·cases h
theorem backS_no {s:Str} {m:Option (Int × Int × List Pt)} (h:(backS s m).2≠0):backS s m=(⟨0,0,[]⟩,12):=by
 unfold backS at h ⊢
 cases m with
 | none=>rfl
 | some m =>
  dsimp only at h ⊢
  split at h
  ·exact absurd rfl h
  ·rename_i c;rw [if_neg c]
theorem num_no10 (n d:Int):(10:UInt8) ∉ (numV n d).1:=by
 unfold numV wrtV
 intro h
 split at h
 ·dsimp only at h
  split at h
  ·exact itoa_no10 _ h
  ·rcases List.mem_append.1 h with h|h
   ·exact itoa_no10 _ h
   ·rcases List.mem_cons.1 h with h|h
    ·exact absurd h (by decide)
    ·exact itoa_no10 _ h
 ·cases h
theorem joinS_no {c:UInt8} (hc:c≠32):∀ {l:List Str},(∀ x∈l,c ∉ x)→c ∉ joinS l
 | [],_=>by intro h;cases h
 | [a],h=>h a (List.mem_cons_self ..)
 | a::b::l,h=>by
  show c ∉ a++32::joinS (b::l)
  intro hm
  rcases List.mem_append.1 hm with hm|hm
  ·exact h a (List.mem_cons_self ..) hm
  ·rcases List.mem_cons.1 hm with hm|hm
   ·exact hc hm
   ·exact joinS_no hc (fun x hx=>h x (List.mem_cons_of_mem _ hx)) hm
theorem rowB_words (n d:Int) (k:Nat) (p:Pt) {c:UInt8} (h:∀ m,c ∉ itoa m) (h2:∀ a b,c ∉ (numV a b).1):∀ x∈[itoa ((k+1:Nat):Int),itoa p.id,(numV (plc p n d).1 (plc p n d).2).1,itoa p.b],c ∉ x:=by
 intro x hx
 simp only [List.mem_cons,List.not_mem_nil,or_false] at hx
 rcases hx with rfl|rfl|rfl|rfl
 ·exact h _
 ·exact h _
 ·exact h2 _ _
 ·exact h _
theorem rowsK_no (n d:Int) (L:List Pt):∀ k,∀ x∈rowsK n d L k,(10:UInt8) ∉ x
 | 0,x,hx=>by cases hx
 | k+1,x,hx=>by
  rw [rowsK] at hx
  rcases List.mem_append.1 hx with hx|hx
  ·exact rowsK_no n d L k x hx
  ·split at hx
   ·obtain rfl:=List.mem_singleton.1 hx
    exact joinS_no (by decide) (rowB_words n d k _ itoa_no10 num_no10)
   ·cases hx
theorem two_no {w a:Str} {c:UInt8} (hc:c≠32) (h1:c ∉ w) (h2:c ∉ a):c ∉ joinS [w,a]:=joinS_no hc fun x hx=>by
 simp only [List.mem_cons,List.not_mem_nil,or_false] at hx
 rcases hx with rfl|rfl<;>assumption
theorem headB_no (m:Md):(10:UInt8) ∉ headB m:=fun h=>by
 unfold headB at h
 rcases List.mem_append.1 h with h|h
 ·exact two_no (by decide) (by decide) (num_no10 _ _) h
 ·exact two_no (by decide) (by decide) (itoa_no10 _) h
theorem mWords_no (m:Mt):∀ x∈mWords m,(10:UInt8) ∉ x:=fun x hx=>by
 unfold mWords at hx
 simp only [List.mem_cons,List.not_mem_nil,or_false] at hx
 rcases hx with rfl|rfl|rfl
 ·exact num_no10 _ _
 ·exact itoa_no10 _
 ·exact itoa_no10 _
theorem clsB_no (m:Md):(10:UInt8) ∉ clsB m:=by
 unfold clsB
 split
 ·decide
 ·refine joinS_no (by decide) fun x hx => ?_
  simp only [List.mem_cons,List.not_mem_nil,or_false] at hx
  rcases hx with rfl|rfl|rfl|rfl
  ·decide
  ·exact itoa_no10 _
  ·exact itoa_no10 _
  ·exact num_no10 _ _
theorem nxtB_no (m:Md):(10:UInt8) ∉ nxtB m:=by
 unfold nxtB
 split
 ·refine joinS_no (by decide) fun x hx => ?_
  rcases List.mem_cons.1 hx with rfl|hx
  ·decide
  ·exact mWords_no _ x hx
 ·decide
theorem linesV_no (m:Md):∀ x∈linesV m,(10:UInt8) ∉ x:=fun x hx=>by
 unfold linesV at hx
 rcases List.mem_append.1 hx with hx|hx
 ·rcases List.mem_cons.1 hx with rfl|hx
  ·exact headB_no m
  ·exact rowsK_no _ _ _ _ x hx
 ·simp only [List.mem_cons,List.not_mem_nil,or_false] at hx
  rcases hx with rfl|rfl
  ·exact clsB_no m
  ·exact nxtB_no m
theorem linesV_len (m:Md):(linesV m).length=m.l.length+3:=by
 unfold linesV
 rw [List.length_append,List.length_cons,rowsK_len _ _ _ _ (by rw [srt_len];exact Nat.le_refl _)]
 rfl
theorem spl_stT (m:Md):spl 10 (stT m)=linesV m++[[]]:=spl_end (linesV_no m)
theorem spl_head (m:Md):spl 32 (headB m)=[wTime,(numV m.n m.d).1,[112,111,105,110,116,115],itoa (m.l.length:Int)]:=by
 have e:headB m=wTime++32::((numV m.n m.d).1++32::([112,111,105,110,116,115]++32::itoa (m.l.length:Int))):=by
  unfold headB
  show (wTime++32::(numV m.n m.d).1)++(wPts++32::itoa _)=_
  simp [wPts]
 rw [e,spl_at _ (by decide),spl_at _ (num_no32 _ _),spl_at _ (by decide),spl_no (itoa_no32 _)]
theorem spl_row (n d:Int) (k:Nat) (p:Pt):spl 32 (rowB n d k p)=[itoa ((k+1:Nat):Int),itoa p.id,(numV (plc p n d).1 (plc p n d).2).1,itoa p.b] :=
 spl_join (by simp) (rowB_words n d k p itoa_no32 num_no32)
theorem plcV_of {p:Pt} {n d:Int} (hp:p.chk=0) (ht:askd n d=0):plcV p.id (plc p n d) p.b n d=some p:=by
 obtain ⟨t1,t2,t3,t4,t5⟩:=askd_ok ht
 have c:=p.chk_ok hp
 obtain ⟨_,x1,x2,x3,x4,x5,x6⟩:=plc_ok hp ht
 have hb1:chk p.b 1=0:=(chk_iff _ _).2 ⟨by omega,by omega,Nat.coprime_one_right _⟩
 have hbn:=prod_in2 p.b n 1048576 1073741824 (by omega) (by omega) (by omega) (by omega)
 obtain ⟨y1,y2,e1,e2,e3,e4,e5,e6⟩:=outQ_sm (n:=p.b*n) (d:=1*d) (by omega) (by omega) (by omega) (by omega)
 have hm:mulV p.b 1 n d=(y1,y2,0):=by rw [mulV_q hb1 t1,qv_mul (by omega) t4,e1]
 have hs:subV (plc p n d).1 (plc p n d).2 y1 y2=(p.a,1,0):=by
  rw [subV_q x1 e2 (by omega),x2,e3,qv_sub t4 (by omega),Int.one_mul]
  have hq:qv ((p.a*d+p.b*n)*d-p.b*n*d) (d*d)=qv p.a 1:=by
   have hdd:1≤d*d:=by have:=Int.mul_le_mul t4 t4 (by omega) (by omega);simpa using this
   rw [qv_eq hdd (by omega),Int.add_mul,Int.mul_one,Int.add_sub_cancel,Int.mul_assoc]
  rw [hq]
  obtain ⟨z1,z2,f1,f2,f3,f4,f5,f6⟩:=outQ_sm (n:=p.a) (d:=1) (by omega) (by omega) (by omega) (by omega)
  obtain rfl:z2=1:=by omega
  rw [f1]
  have:=(qv_eq (n:=z1) (m:=p.a) (d:=1) (e:=1) (by omega) (by omega)).1 f3
  obtain rfl:z1=p.a:=by omega
  rfl
 unfold plcV
 rw [hm]
 dsimp only
 rw [hs]
 rw [if_pos rfl,if_pos ⟨rfl,rfl,hp⟩]
theorem plc_fit {p:Pt} {n d:Int} (hp:p.chk=0) (ht:askd n d=0):fit2 (plc p n d).1 (plc p n d).2:=by
 obtain ⟨_,x1,x2,x3,x4,x5,x6⟩:=plc_ok hp ht
 unfold fit2 fitI
 omega
theorem rdRws_of {f:List Str→Option Pt} {n d:Int} {L:List Pt} (hf:∀ k,(h:k<L.length)→f [itoa ((k+1:Nat):Int),itoa L[k].id,(numV (plc L[k] n d).1 (plc L[k] n d).2).1,itoa L[k].b]=some L[k]):∀ k,k≤L.length→rdRws f (rowsK n d L k)=some (L.take k)
 | 0,_=>by rw [List.take_zero];rfl
 | k+1,h=>by
  have ih:=rdRws_of hf k (by omega)
  have key:∀ (A:List Str) (R:List Pt) (x:Str) (p:Pt),rdRws f A=some R→f (spl 32 x)=some p→rdRws f (A++[x])=some (R++[p]):=by
   intro A
   induction A with
   | nil =>
    intro R x p h1 h2
    rw [rdRws] at h1
    injection h1 with h1
    subst h1
    rw [List.nil_append,rdRws,h2]
    rfl
   | cons a A ihA =>
    intro R x p h1 h2
    rw [rdRws] at h1
    rw [List.cons_append,rdRws]
    cases h3:f (spl 32 a) with
    | none=>rw [h3] at h1;cases h1
    | some q =>
     rw [h3] at h1
     dsimp only at h1 ⊢
     cases h4:rdRws f A with
     | none=>rw [h4] at h1;cases h1
     | some R' =>
      rw [h4] at h1
      injection h1 with h1
      subst h1
      rw [ihA R' x p h4 h2]
      rfl
  rw [rowsK_succ (by omega),List.take_succ_eq_append_getElem (by omega)]
  exact key _ _ _ _ ih (by rw [spl_row];exact hf k (by omega))
theorem srdG_of {rd:Str→Option (Int × Int)} {f:Int→Int→List Str→Option Pt} {m:Md} (hm:mchk m=0) (h1:rd (numV m.n m.d).1=some (m.n,m.d))
  (hf:∀ p:Pt,p.chk=0→∀ k:Nat,k<64→f m.n m.d [itoa ((k+1:Nat):Int),itoa p.id,(numV (plc p m.n m.d).1 (plc p m.n m.d).2).1,itoa p.b]=some p):srdG rd f (stT m)=some (m.n,m.d,srt m.n m.d m.l):=by
 obtain ⟨g1,g2⟩:=mchk_ok hm
 obtain ⟨k1,k2,k3⟩:=fchk_ok g2
 have hl:=linesV_len m
 have hsl:(srt m.n m.d m.l).length=m.l.length:=srt_len ..
 unfold srdG
 rw [spl_stT]
 have hh:(linesV m++[[]]).headD []=headB m:=rfl
 have hlen:(linesV m++[[]]).length=m.l.length+4:=by rw [List.length_append,hl];rfl
 rw [hh,hlen,spl_head,if_neg (by simp only [List.length_cons,List.length_nil];omega)]
 simp only [List.getD_cons_succ,List.getD_cons_zero]
 rw [h1]
 dsimp only
 have ht:((linesV m++[[]]).take (m.l.length+4-3)).drop 1=rowsK m.n m.d (srt m.n m.d m.l) m.l.length:=by
  have hr:=rowsK_len m.n m.d (srt m.n m.d m.l) m.l.length (by omega)
  have e:linesV m++[[]]=(headB m::rowsK m.n m.d (srt m.n m.d m.l) m.l.length)++[clsB m,nxtB m,[]]:=by unfold linesV;rw [List.append_assoc];rfl
  rw [e,List.take_append_of_le_length (by rw [List.length_cons,hr];omega),List.take_of_length_le (by rw [List.length_cons,hr];omega)]
  rfl
 rw [ht,rdRws_of (L:=srt m.n m.d m.l) (fun k hk=>hf _ (k2 _ ((srt_perm m.n m.d m.l).mem_iff.1 (List.getElem_mem hk))) k (by omega)) m.l.length (by omega),← hsl,List.take_length]
 rfl
theorem backS_of {m:Md} (hm:mchk m=0):backS (stT m) (some (m.n,m.d,srt m.n m.d m.l))=(m,0):=by
 obtain ⟨k1,k2,k3⟩:=fchk_ok (mchk_ok hm).2
 rw [backS_any (l':=m.l) (srt_perm m.n m.d m.l).symm (incr_pair k3),if_pos ⟨hm,rfl⟩]
theorem pcdP_of {p:Pt} {n d:Int} (hp:p.chk=0) (ht:askd n d=0) (k:Nat) (hk:k<64):pcdP n d [itoa ((k+1:Nat):Int),itoa p.id,(numV (plc p n d).1 (plc p n d).2).1,itoa p.b]=some p:=by
 have c:=p.chk_ok hp
 obtain ⟨_,x1,_⟩:=plc_ok hp ht
 show (match atoV (itoa ((k+1:Nat):Int)),atoV (itoa p.id),frV (numV (plc p n d).1 (plc p n d).2).1,atoV (itoa p.b) with
  | some _,some id,some x,some v=>plcV id x v n d
  | _,_,_,_=>none)=_
 rw [atoV_id (n:=((k+1:Nat):Int)) (by omega) (by omega),atoV_id c.1 c.2.1,frV_of x1 (plc_fit hp ht),atoV_itoa (by rw [show (10:Nat) ^ 17=100000000000000000 by decide];omega)]
 exact plcV_of hp ht
theorem now_fit {n d:Int} (ht:askd n d=0):fit2 n d:=by
 have:=askd_ok ht
 unfold fit2 fitI
 omega
theorem srdP_is:Reads stT (fun m=>mchk m=0) ⟨0,0,[]⟩ srdP:=by
 refine ⟨fun s h=>backS_ok h,fun s h=>backS_no h,fun m hm => ?_⟩
 obtain ⟨g1,g2⟩:=mchk_ok hm
 unfold srdP
 rw [srdG_of hm (frV_of (askd_ok g1).1 (now_fit g1)) fun p hp k hk=>pcdP_of hp g1 k hk]
 exact backS_of hm
end Go.Proofs.YtfkfficabeclcaaGreatDoor

namespace Go.Proofs.YtfkfficabeclcaaGreatDoor
open Go Go.RowKit Go.Sort Sx
open Go.Lib hiding intOf
set_option maxRecDepth 2000
abbrev retRb (x:Rp) (b:Bool):DV:=.tup [x.dc,.one (bol b)]
abbrev retRp (x:Rp × Int):DV:=.tup [x.1.dc,.one (i64 x.2)]
theorem br_cases (r:Rp) (s:Str):(rchk r=0∧rText r=s∧backR s (some r)=(r,0))∨(rchk r=0∧rText r≠s∧backR s (some r)=(rp0,12))∨(rchk r=8∧backR s (some r)=(rp0,12)):=by
 rcases rchk_08 r with h|h
 ·by_cases e:rText r=s
  ·exact .inl ⟨h,e,backR_of h e⟩
  ·exact .inr (.inl ⟨h,e,by unfold backR;dsimp only;rw [if_neg fun k=>e k.2]⟩)
 ·exact .inr (.inr ⟨h,by unfold backR;dsimp only;rw [if_neg fun k=>by omega]⟩)
end Go.Proofs.YtfkfficabeclcaaGreatDoor

namespace Go.Proofs.YtfkfficabeclcaaGreatDoor
open Go Go.RowKit Go.Sort Sx
open Go.Lib hiding intOf
set_option maxRecDepth 2000
structure PsO (L0:List Pt) (i:Nat) (L:List Pt):Prop where
 p:L.Perm L0
 o:∀ a b (h:a<b) (hb:b<L.length),b<i→¬ L[b].id<L[a].id
structure PsI (L0:List Pt) (i k:Nat) (L:List Pt):Prop where
 p:L.Perm L0
 hk:k≤i
 hi:i<L.length
 o:∀ a b (h:a<b) (hb:b<L.length),b≤i→b≠k→¬ L[b].id<L[a].id
def pswp (L:List Pt) (k:Nat) (h:k<L.length):List Pt:=(L.set k L[k-1]).set (k-1) L[k]
theorem pswp_len {L:List Pt} {k:Nat} (h:k<L.length):(pswp L k h).length=L.length:=by simp [pswp]
theorem pswp_get {L:List Pt} {k:Nat} (h:k<L.length) (h0:0<k) {b:Nat} (hb:b<(pswp L k h).length) :
  (pswp L k h)[b]=if b=k-1 then L[k] else if b=k then L[k-1] else L[b]'(by rw [pswp_len] at hb;exact hb):=by
 simp only [pswp,List.getElem_set,eq_comm (b:=b)]
theorem pswap_at {x y:Pt} {l r:List Pt}:(l++y::x::r).Perm (l++x::y::r):=List.Perm.append_left l (List.Perm.swap ..)
theorem pswp_perm {L:List Pt} {k:Nat} (h:k<L.length) (h0:0<k):(pswp L k h).Perm L:=by
 obtain ⟨j,rfl⟩:∃ j,k=j+1:=⟨k-1,by omega⟩
 have e1:L=L.take j++L[j]::L[j+1]::L.drop (j+2):=by
  rw [← List.drop_eq_getElem_cons h,← List.drop_eq_getElem_cons (by omega),List.take_append_drop]
 have e2:pswp L (j+1) h=L.take j++L[j+1]::L[j]::L.drop (j+2):=by
  refine List.ext_getElem (by rw [pswp_len];simp;omega) fun b h1 h2 => ?_
  rw [pswp_get h h0]
  rw [pswp_len] at h1
  simp only [Nat.add_sub_cancel]
  rcases Nat.lt_trichotomy b j with c|c|c
  ·rw [if_neg (by omega),if_neg (by omega),List.getElem_append_left (by simp;omega),List.getElem_take]
  ·subst c
   have hm:min b L.length=b:=Nat.min_eq_left (by omega)
   rw [if_pos rfl,List.getElem_append_right (by rw [List.length_take];omega)]
   simp only [List.length_take,hm,Nat.sub_self,List.getElem_cons_zero]
  ·rw [if_neg (by omega),List.getElem_append_right (by simp;omega)]
   by_cases c1:b=j+1
   ·subst c1
    have key:∀ q,q=1→∀ (hq:q<(L[j+1]::L[j]::List.drop (j+2) L).length),(L[j+1]::L[j]::List.drop (j+2) L)[q]=L[j]:=by rintro _ rfl _;rfl
    rw [if_pos rfl]
    exact (key _ (by rw [List.length_take];omega) _).symm
   ·obtain ⟨d,rfl⟩:∃ d,b=j+(d+2):=⟨b-j-2,by omega⟩
    rw [if_neg c1]
    simp only [List.length_take,Nat.min_eq_left (show j≤L.length by omega),Nat.add_sub_cancel_left,List.getElem_cons_succ,List.getElem_drop]
    exact getElem_congr rfl (by omega) _
 rw [e2]
 conv=>rhs;rw [e1]
 exact pswap_at
theorem PsI.start {L0 L:List Pt} {i:Nat} (H:PsO L0 i L) (h:i<L.length):PsI L0 i i L:=⟨H.p,Nat.le_refl _,h,fun a b h hb h1 h2=>H.o a b h hb (by omega)⟩
theorem PsI.next {L0 L:List Pt} {i k:Nat} (H:PsI L0 i k L) (h0:0<k) (hl:(L[k]'(Nat.lt_of_le_of_lt H.hk H.hi)).id<(L[k-1]'(by have:=H.hk;have:=H.hi;omega)).id):PsI L0 i (k-1) (pswp L k (Nat.lt_of_le_of_lt H.hk H.hi)):=by
 have hk:=H.hk
 have hi:=H.hi
 refine ⟨(List.Perm.trans ?_ H.p),by omega,by rw [pswp_len];exact hi,fun a b h hb h1 h2 => ?_⟩
 ·exact pswp_perm _ h0
 ·have hb':=hb
  rw [pswp_len] at hb'
  rw [pswp_get _ h0,pswp_get _ h0]
  rw [if_neg h2]
  by_cases c1:b=k
  ·rw [if_pos c1]
   by_cases c2:a=k-1
   ·rw [if_pos c2];omega
   ·rw [if_neg c2,if_neg (by omega)]
    exact H.o a (k-1) (by omega) (by omega) (by omega) (by omega)
  ·rw [if_neg c1]
   by_cases c2:a=k-1
   ·rw [if_pos c2]
    exact H.o k b (by omega) hb' h1 c1
   ·rw [if_neg c2]
    by_cases c3:a=k
    ·rw [if_pos c3]
     exact H.o (k-1) b (by omega) hb' h1 c1
    ·rw [if_neg c3]
     exact H.o a b h hb' h1 c1
end Go.Proofs.YtfkfficabeclcaaGreatDoor

namespace Go.Proofs.YtfkfficabeclcaaGreatDoor
open Go.RowKit Go.Sort Sx Go.Lib
theorem itoa_21 {n:Int} (h1 : -1000000000000000≤n) (h2:n≤1000000000000000):(itoa n).length≤21:=itoa_le ⟨by omega,by omega⟩
theorem rowB_len {n d:Int} {k:Nat} {p:Pt} (hp:p.chk=0) (ht:askd n d=0) (hk:k<64):(rowB n d k p).length≤109:=by
 have c:=Pt.chk_ok hp
 obtain ⟨_,x1,_,x3,x4,x5,x6⟩:=plc_ok hp ht
 have h1:=itoa_21 (n:=((k+1:Nat):Int)) (by omega) (by omega)
 have h2:=itoa_21 (n:=p.id) (by omega) (by omega)
 have h3:=itoa_21 (n:=p.b) (by omega) (by omega)
 have h4:=numV_len (n:=(plc p n d).1) (d:=(plc p n d).2) ⟨by omega,by omega⟩ ⟨by omega,by omega⟩
 unfold rowB
 simp only [joinS,List.length_append,List.length_cons]
 omega
theorem rowsK_bytes {n d:Int} {L:List Pt} (hL:∀ p∈L,p.chk=0) (ht:askd n d=0) (hl:L.length≤64):∀ k,k≤L.length→(nlS (rowsK n d L k)).length≤110*k
 | 0,_=>Nat.le_refl _
 | k+1,h=>by
  have ih:=rowsK_bytes hL ht hl k (by omega)
  have h1:=rowB_len (k:=k) (hL _ (List.getElem_mem (show k<L.length by omega))) ht (by omega)
  rw [rowsK_succ (by omega),nlS_app,List.length_append]
  have:(nlS [rowB n d k L[k]]).length=(rowB n d k L[k]).length+1:=by simp [nlS]
  omega
theorem headB_len {m:Md} (ht:askd m.n m.d=0) (hl:m.l.length≤64):(headB m).length≤77:=by
 have c:=askd_ok ht
 have h1:=numV_len (n:=m.n) (d:=m.d) ⟨by omega,by omega⟩ ⟨by omega,by omega⟩
 have h2:=itoa_21 (n:=(m.l.length:Int)) (by omega) (by omega)
 unfold headB
 simp only [joinS,List.length_append,List.length_cons,wTime,wPts,List.length_nil]
 omega
theorem clsB_len {m:Md} (hm:mchk m=0):(clsB m).length≤95:=by
 obtain ⟨g1,g2⟩:=mchk_ok hm
 obtain ⟨k1,k2,k3⟩:=fchk_ok g2
 unfold clsB
 split
 ·simp [wClst0]
 ·rename_i h
  obtain ⟨p1,p2,p3,p4,p5,p6,p7⟩:=pairC_ok k2 g1 (show 2≤m.l.length by omega)
  have i1:=Pt.chk_ok (k2 _ (List.getElem_mem p6))
  have i2:=Pt.chk_ok (k2 _ (List.getElem_mem p7))
  have e:closV m.l m.n m.d=(m.l[(pairC m.l m.n m.d).1].id,m.l[(pairC m.l m.n m.d).2.1].id,(pairC m.l m.n m.d).2.2.1,(pairC m.l m.n m.d).2.2.2,0):=by
   unfold closV
   rw [if_pos g2,if_pos g1,if_neg h,List.getElem?_eq_getElem p6,List.getElem?_eq_getElem p7]
   rfl
  rw [e]
  have h1:=itoa_21 (n:=m.l[(pairC m.l m.n m.d).1].id) (by omega) (by omega)
  have h2:=itoa_21 (n:=m.l[(pairC m.l m.n m.d).2.1].id) (by omega) (by omega)
  have h4:=numV_len (n:=(pairC m.l m.n m.d).2.2.1) (d:=(pairC m.l m.n m.d).2.2.2) ⟨by omega,by omega⟩ ⟨by omega,by omega⟩
  simp only [joinS,List.length_append,List.length_cons,wClst,List.length_nil]
  omega
theorem nxt_in {m:Md} (hm:mchk m=0) (h:(nxtV m.l m.n m.d).2=0):(nxtV m.l m.n m.d).1.ok∧0≤(nxtV m.l m.n m.d).1.i∧(nxtV m.l m.n m.d).1.i<(nxtV m.l m.n m.d).1.j∧(nxtV m.l m.n m.d).1.j≤65535:=by
 obtain ⟨g1,g2⟩:=mchk_ok hm
 obtain ⟨k1,k2,k3⟩:=fchk_ok g2
 unfold nxtV at h ⊢
 split at h
 ·rename_i hlt
  rw [dif_pos hlt]
  have hmem:=msrt_mem.1 (List.getElem_mem hlt)
  refine ⟨(outs_ok g2 _ hmem).1,?_⟩
  obtain ⟨⟨p,q⟩,h1,h2⟩:=List.mem_filterMap.1 hmem
  obtain ⟨hp,hq⟩:=pairs_mem h1
  have hlt:=pairs_lt k3 h1
  have cp:=cpt_ok (k2 p hp)
  have cq:=cpt_ok (k2 q hq)
  unfold meet1 at h2
  dsimp only at h2
  split at h2
  ·injection h2 with h2
   rw [← h2]
   exact ⟨by show 0≤p.id;omega,hlt,by show q.id≤_;omega⟩
  ·cases h2
 ·cases h
theorem nxtB_len {m:Md} (hm:mchk m=0):(nxtB m).length≤92:=by
 unfold nxtB
 split
 ·rename_i h
  obtain ⟨⟨o1,o2,o3,_⟩,n1,n2,n3⟩:=nxt_in hm h
  have c:=(chk_iff _ _).1 o1
  have h1:=itoa_21 (n:=(nxtV m.l m.n m.d).1.i) (by omega) (by omega)
  have h2:=itoa_21 (n:=(nxtV m.l m.n m.d).1.j) (by omega) (by omega)
  have h4:=numV_len (n:=(nxtV m.l m.n m.d).1.n) (d:=(nxtV m.l m.n m.d).1.d) o2 ⟨by omega,by omega⟩
  simp only [mWords,joinS,List.length_append,List.length_cons,wNext,List.length_nil]
  omega
 ·simp [wNext0]
theorem nlS_cons (a:Str) (l:List Str):nlS (a::l)=a++10::nlS l:=by unfold nlS;rw [List.flatMap_cons,List.append_assoc];rfl
theorem stT_parts (m:Md):stT m=headB m++10::(nlS (rowsK m.n m.d (srt m.n m.d m.l) m.l.length)++(clsB m++10::(nxtB m++[10]))):=by
 unfold stT linesV
 rw [List.cons_append,nlS_cons,nlS_app,nlS_cons,nlS_cons]
 rfl
theorem stT_len {m:Md} (hm:mchk m=0):(stT m).length≤8000:=by
 obtain ⟨g1,g2⟩:=mchk_ok hm
 obtain ⟨k1,k2,k3⟩:=fchk_ok g2
 have h1:=headB_len g1 k1
 have h2:=rowsK_bytes (L:=srt m.n m.d m.l) (fun p hp=>k2 p ((srt_perm m.n m.d m.l).mem_iff.1 hp)) g1 (by rw [srt_len];exact k1) m.l.length (by rw [srt_len];exact Nat.le_refl _)
 have h3:=clsB_len hm
 have h4:=nxtB_len hm
 rw [stT_parts]
 simp only [List.length_append,List.length_cons,List.length_nil]
 omega
end Go.Proofs.YtfkfficabeclcaaGreatDoor

namespace Go.Proofs.YtfkfficabeclcaaGreatDoor
open Go Go.RowKit Go.Sort Sx
open Go.Lib hiding intOf
set_option maxRecDepth 2000
end Go.Proofs.YtfkfficabeclcaaGreatDoor

namespace Go.Proofs.YtfkfficabeclcaaGreatDoor
open Go Go.RowKit Go.Sort Sx
open Go.Lib hiding intOf
set_option maxRecDepth 2000
abbrev retMe (x:Md × Int):DV:=.tup [x.1.dc,.one (i64 x.2)]
theorem rdRws_app (f:List Str→Option Pt):∀ (a b:List Str),rdRws f (a++b)=match rdRws f a with
  | none=>none
  | some r=>(rdRws f b).map fun q=>r++q
 | [],b=>by simp [rdRws]
 | x::a,b=>by
  rw [List.cons_append,rdRws,rdRws]
  cases h:f (spl 32 x) with
  | none=>rfl
  | some p =>
   dsimp only
   rw [rdRws_app f a b]
   cases h2:rdRws f a with
   | none=>rfl
   | some r =>
    dsimp only [Option.map_some]
    cases rdRws f b<;>rfl
theorem rdRws_one (f:List Str→Option Pt) (x:Str):rdRws f [x]=(f (spl 32 x)).map fun p=>[p]:=by
 rw [rdRws]
 cases f (spl 32 x)<;>rfl
theorem rdRws_len (f:List Str→Option Pt):∀ {l:List Str} {A:List Pt},rdRws f l=some A→A.length=l.length
 | [],A,h=>by rw [rdRws] at h;injection h with h;subst h;rfl
 | x::l,A,h=>by
  rw [rdRws] at h
  cases h1:f (spl 32 x) with
  | none=>rw [h1] at h;cases h
  | some p =>
   rw [h1] at h
   dsimp only at h
   cases h2:rdRws f l with
   | none=>rw [h2] at h;cases h
   | some r =>
    rw [h2] at h
    injection h with h
    subst h
    rw [List.length_cons,List.length_cons,rdRws_len f h2]
theorem smd_cases {s:Str} {n d:Int} {l l':List Pt} (hp:l'.Perm l) (hs:l'.Pairwise fun a b=>a.id≤b.id):(mchk ⟨n,d,l'⟩=0∧stT ⟨n,d,l'⟩=s∧backS s (some (n,d,l))=(⟨n,d,l'⟩,0))∨(mchk ⟨n,d,l'⟩=0∧stT ⟨n,d,l'⟩≠s∧backS s (some (n,d,l))=(⟨0,0,[]⟩,12))∨(mchk ⟨n,d,l'⟩=8∧backS s (some (n,d,l))=(⟨0,0,[]⟩,12)):=by
 rw [backS_any hp hs]
 rcases mchk_08 ⟨n,d,l'⟩ with h|h
 ·by_cases e:stT ⟨n,d,l'⟩=s
  ·exact .inl ⟨h,e,by rw [if_pos ⟨h,e⟩]⟩
  ·exact .inr (.inl ⟨h,e,by rw [if_neg fun k=>e k.2]⟩)
 ·exact .inr (.inr ⟨h,by rw [if_neg fun k=>by omega]⟩)
end Go.Proofs.YtfkfficabeclcaaGreatDoor
