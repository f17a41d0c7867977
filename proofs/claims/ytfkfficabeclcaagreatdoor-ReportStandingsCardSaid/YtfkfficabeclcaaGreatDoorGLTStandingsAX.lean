import Derived.Test.YtfkfficabeclcaaGreatDoorGLTStandingsAT
import Derived.Test.YtfkfficabeclcaaGreatDoorGLTStandingsAW
import Derived.Test.YtfkfficabeclcaaGreatDoorGLTStandingsAU
import Derived.Test.YtfkfficabeclcaaGreatDoorGLTStandingsAR
set_option linter.all false
namespace Go.Proofs.YtfkfficabeclcaaGreatDoor
open Go Go.RowKit Go.Sort Sx
open Go.Lib hiding intOf
set_option maxRecDepth 2000
theorem back_cases (s:Str) (n d:Int):(chk n d=0∧wrtV n d=s∧backV s n d=((n,d),0))∨(chk n d=0∧wrtV n d≠s∧backV s n d=((0,0),12))∨(chk n d=8∧backV s n d=((0,0),12)):=by
 by_cases h:chk n d=0
 ·by_cases e:wrtV n d=s
  ·exact .inl ⟨h,e,backV_yes h e⟩
  ·exact .inr (.inl ⟨h,e,backV_ne e⟩)
 ·exact .inr (.inr ⟨(chk_08 n d).resolve_left h,backV_nc h⟩)
theorem fit1:fitI 1:=⟨by decide,by decide⟩
theorem rcReadNumber_fn (s:Str) (hs:s.length≤100000):FnOK Tryz.prog 60 [.one (str s)] (retR3 (readR s)):=by
 have Hs:FnOK Tryz.prog 32 [.one (str s),.one (.v (.int .u8 47))] (.c (.one (strs (spl 47 s)))):=rcCut_fn s 47 hs
 have hl2:=spl_each 47 s
 unfold readR
 cases hL:spl 47 s with
 | nil=>exact absurd hL (spl_ne 47 s)
 | cons w0 t =>
  rw [hL] at Hs hl2
  have Ha:=rcWhole_fn w0 (Nat.le_trans (hl2 w0 (by simp)) (by omega))
  have hfa:(wholeR w0).2=true→fitI (wholeR w0).1:=fun h=>(wholeR_ok h).1
  have gl:((w0::t).map fun s=>[str s]).length=t.length+1:=by simp
  have g0:((w0::t).map fun s=>[str s])[(0:Int).toNat]? = some [str w0]:=rfl
  simp only [List.getElem?_cons_zero,Option.getD_some,List.length_cons]
  generalize wholeR w0=p at *
  obtain ⟨pn,pb⟩:=p
  simp only [retWr] at Ha hfa ⊢
  cases t with
  | nil =>
   have gl:([w0].map fun s=>[str s]).length=1:=rfl
   simp only [List.length_nil,Nat.zero_add,Nat.lt_irrefl,false_implies,and_true,if_false]
   refine fn_ok (by kernel_rfl) ty_ok Tryz.func60 rfl (fun _ _=>Tryz.call60 _ _) rfl ?_
   intro hw
   clear hw
   cases pb
   ·rw [if_neg (by decide)]
    repeat' ((conv=>whnf);first|(with_reducible first|refine br_t ?_|refine br_f ?_|refine za ?_|refine zg ?_)|refine zsl ?_|refine zsg ?_|refine zss ?_|refine zs1 ?_|refine zse ?_|refine zsn ?_|refine zsc ?_|(with_reducible first|refine zpa ?_|refine zqa ?_)|refine zp ?_|refine zq ?_|(with_reducible first|refine bc (fun h => ?_) (fun h => ?_)|refine zt ?_|refine zf ?_|refine br_i (fun h => ?_) (fun h => ?_))|refine zg ?_|refine zi ?_|refine zb ?_)
    all_goals conv=>whnf
    all_goals rfl
   ·rw [if_pos rfl]
    have Hn:=rcwritten_fn (hfa rfl) fit1
    have Hc:=rcheck_fn pn 1
    rcases back_cases s pn 1 with ⟨h,e,b⟩|⟨h,e,b⟩|⟨h,b⟩
    all_goals rw [h] at Hc
    all_goals rw [b]
    all_goals clear h b
    repeat' ((conv=>whnf);first|(with_reducible first|refine br_t ?_|refine br_f ?_|refine za ?_|refine zg ?_)|refine zsl ?_|refine zsg ?_|refine zss ?_|refine zs1 ?_|refine zse ?_|refine zsn ?_|refine zsc ?_|(with_reducible first|refine zpa ?_|refine zqa ?_)|refine zp ?_|refine zq ?_|(with_reducible first|refine bc (fun h => ?_) (fun h => ?_)|refine zt ?_|refine zf ?_|refine br_i (fun h => ?_) (fun h => ?_))|refine zg ?_|refine zi ?_|refine zb ?_)
    all_goals conv=>whnf
    all_goals first|rfl|contradiction
  | cons w1 t =>
   have Hb:=rcWhole_fn w1 (Nat.le_trans (hl2 w1 (by simp)) (by omega))
   have hfb:(wholeR w1).2=true→fitI (wholeR w1).1:=fun h=>(wholeR_ok h).1
   have g1:((w0::w1::t).map fun s=>[str s])[(1:Int).toNat]? = some [str w1]:=rfl
   rw [List.length_cons] at gl
   simp only [List.length_cons,List.getElem?_cons_succ,List.getElem?_cons_zero,Option.getD_some,show 1<t.length+1+1 from by omega,true_implies,if_true]
   generalize wholeR w1=q at *
   obtain ⟨qn,qb⟩:=q
   simp only [retWr] at Hb hfb ⊢
   refine fn_ok (by kernel_rfl) ty_ok Tryz.func60 rfl (fun _ _=>Tryz.call60 _ _) rfl ?_
   intro hw
   clear hw
   cases pb
   ·rw [if_neg (by simp)]
    repeat' ((conv=>whnf);first|(with_reducible first|refine br_t ?_|refine br_f ?_|refine za ?_|refine zg ?_)|refine zsl ?_|refine zsg ?_|refine zss ?_|refine zs1 ?_|refine zse ?_|refine zsn ?_|refine zsc ?_|(with_reducible first|refine zpa ?_|refine zqa ?_)|refine zp ?_|refine zq ?_|(with_reducible first|refine bc (fun h => ?_) (fun h => ?_)|refine zt ?_|refine zf ?_|refine br_i (fun h => ?_) (fun h => ?_))|refine zg ?_|refine zi ?_|refine zb ?_)
    all_goals conv=>whnf
    all_goals rfl
   ·cases qb
    ·rw [if_neg (by simp)]
     repeat' ((conv=>whnf);first|(with_reducible first|refine br_t ?_|refine br_f ?_|refine za ?_|refine zg ?_)|refine zsl ?_|refine zsg ?_|refine zss ?_|refine zs1 ?_|refine zse ?_|refine zsn ?_|refine zsc ?_|(with_reducible first|refine zpa ?_|refine zqa ?_)|refine zp ?_|refine zq ?_|(with_reducible first|refine bc (fun h => ?_) (fun h => ?_)|refine zt ?_|refine zf ?_|refine br_i (fun h => ?_) (fun h => ?_))|refine zg ?_|refine zi ?_|refine zb ?_)
     all_goals conv=>whnf
     all_goals rfl
    ·rw [if_pos ⟨rfl,rfl⟩]
     have Hn:=rcwritten_fn (hfa rfl) (hfb rfl)
     have Hc:=rcheck_fn pn qn
     rcases back_cases s pn qn with ⟨h,e,b⟩|⟨h,e,b⟩|⟨h,b⟩
     all_goals rw [h] at Hc
     all_goals rw [b]
     all_goals clear h b
     repeat' ((conv=>whnf);first|(with_reducible first|refine br_t ?_|refine br_f ?_|refine za ?_|refine zg ?_)|refine zsl ?_|refine zsg ?_|refine zss ?_|refine zs1 ?_|refine zse ?_|refine zsn ?_|refine zsc ?_|(with_reducible first|refine zpa ?_|refine zqa ?_)|refine zp ?_|refine zq ?_|(with_reducible first|refine bc (fun h => ?_) (fun h => ?_)|refine zt ?_|refine zf ?_|refine br_i (fun h => ?_) (fun h => ?_))|refine zg ?_|refine zi ?_|refine zb ?_)
     all_goals conv=>whnf
     all_goals first|rfl|contradiction
end Go.Proofs.YtfkfficabeclcaaGreatDoor

namespace Go.Proofs.YtfkfficabeclcaaGreatDoor
open Go Go.RowKit Go.Sort Sx
open Go.Lib hiding intOf
set_option maxRecDepth 2000
theorem rtnumber_fn (n d:Int):FnOK Tryz.prog 106 [.agg [i64 n,i64 d]] (.c (.one (str (numV n d).1))):=by
 have H:=rcNumber_fn n d
 obtain ⟨S,hS⟩:∃ S,S=(numV n d).1:=⟨_,rfl⟩
 obtain ⟨E,hE⟩:∃ E,E=(numV n d).2:=⟨_,rfl⟩
 unfold retS at H
 rw [← hS,← hE] at H
 rw [← hS]
 clear hS hE
 refine fn_ok (by kernel_rfl) ty_ok Tryz.func106 rfl (fun _ _=>Tryz.call106 _ _) rfl ?_
 intro hw
 clear hw
 repeat' ((conv=>whnf);first|(with_reducible first|refine br_t ?_|refine br_f ?_|refine za ?_|refine zg ?_)|refine zsl ?_|refine zsg ?_|refine zss ?_|refine zs1 ?_|refine zse ?_|refine zsn ?_|refine zsc ?_|(with_reducible first|refine zpa ?_|refine zqa ?_)|refine zp ?_|refine zq ?_|(with_reducible first|refine bc (fun h => ?_) (fun h => ?_)|refine zt ?_|refine zf ?_|refine br_i (fun h => ?_) (fun h => ?_))|refine zg ?_|refine zi ?_|refine zb ?_)
 all_goals conv=>whnf
 all_goals rfl
theorem rtwhole_fn {n:Int} (h:fitI n):FnOK Tryz.prog 107 [.one (i64 n)] (.c (.one (str (itoa n)))):=by
 have H:=rcDecimal_fn n h
 obtain ⟨h1,h2⟩:=h
 refine fn_ok (by kernel_rfl) ty_ok Tryz.func107 rfl (fun _ _=>Tryz.call107 _ _) rfl ?_
 intro hw
 clear hw
 repeat' ((conv=>whnf);first|(with_reducible first|refine br_t ?_|refine br_f ?_|refine za ?_|refine zg ?_)|refine zsl ?_|refine zsg ?_|refine zss ?_|refine zs1 ?_|refine zse ?_|refine zsn ?_|refine zsc ?_|(with_reducible first|refine zpa ?_|refine zqa ?_)|refine zp ?_|refine zq ?_|(with_reducible first|refine bc (fun h => ?_) (fun h => ?_)|refine zt ?_|refine zf ?_|refine br_i (fun h => ?_) (fun h => ?_))|refine zg ?_|refine zi ?_|refine zb ?_)
 all_goals conv=>whnf
 all_goals rfl
def mText (m:Mt):Str:=joinS (mWords m)
theorem mText_is (m:Mt):mText m=(((numV m.n m.d).1++[32])++itoa m.i++[32])++itoa m.j:=by
 unfold mText mWords
 show (numV m.n m.d).1++32::(itoa m.i++32::itoa m.j)=_
 simp
theorem numV_len {n d:Int} (h1:in64 n) (h2:in64 d):(numV n d).1.length≤43:=by
 unfold numV
 split
 ·exact wrtV_le h1 h2
 ·simp
theorem mText_len {m:Mt} (h1:in64 m.n) (h2:in64 m.d) (h3:0≤m.i) (h4:m.i<m.j) (h5:m.j≤65535):(mText m).length≤87:=by
 rw [mText_is]
 have a:=numV_len h1 h2
 have b:=itoa_le (n:=m.i) ⟨by omega,by omega⟩
 have c:=itoa_le (n:=m.j) ⟨by omega,by omega⟩
 simp only [List.length_append,List.length_cons,List.length_nil]
 omega
theorem rtthree_fn {m:Mt} (h1:in64 m.n) (h2:in64 m.d) (h3:0≤m.i) (h4:m.i<m.j) (h5:m.j≤65535):FnOK Tryz.prog 113 [m.dc] (.c (.one (str (mText m)))):=by
 have Hn:=rtnumber_fn m.n m.d
 have Hi:=rtwhole_fn (n:=m.i) ⟨by omega,by omega⟩
 have Hj:=rtwhole_fn (n:=m.j) ⟨by omega,by omega⟩
 have ln:=numV_len h1 h2
 have li:=itoa_le (n:=m.i) ⟨by omega,by omega⟩
 have lj:=itoa_le (n:=m.j) ⟨by omega,by omega⟩
 rw [mText_is]
 obtain ⟨S,hS⟩:∃ S,S=(numV m.n m.d).1:=⟨_,rfl⟩
 rw [← hS] at Hn ln ⊢
 clear hS
 obtain ⟨n,d,i,j⟩:=m
 simp only at *
 simp only [Mt.dc]
 refine fn_ok (by kernel_rfl) ty_ok Tryz.func113 rfl (fun _ _=>Tryz.call113 _ _) rfl ?_
 intro hw
 clear hw
 repeat' ((conv=>whnf);first|(with_reducible first|refine br_t ?_|refine br_f ?_|refine za ?_|refine zg ?_)|refine zsl ?_|refine zsg ?_|refine zss ?_|refine zs1 ?_|refine zse ?_|refine zsn ?_|refine zsc ?_|(with_reducible first|refine zpa ?_|refine zqa ?_)|refine zp ?_|refine zq ?_|(with_reducible first|refine bc (fun h => ?_) (fun h => ?_)|refine zt ?_|refine zf ?_|refine br_i (fun h => ?_) (fun h => ?_))|refine zg ?_|refine zi ?_|refine zb ?_)
 all_goals conv=>whnf
 all_goals rfl
theorem joinS_cons (a:Str) {l:List Str} (h:l≠[]):joinS (a::l)=a++32::joinS l:=by
 cases l with
 | nil=>exact absurd rfl h
 | cons b l=>rfl
end Go.Proofs.YtfkfficabeclcaaGreatDoor

namespace Go.Proofs.YtfkfficabeclcaaGreatDoor
open Go Go.RowKit Go.Sort Sx
set_option maxRecDepth 2000
def nxtV (l:List Pt) (n e:Int):Mt × Int:=if h:bcnt (allM l) n e<(allM l).length then ((allM l)[bcnt (allM l) n e],0) else (⟨0,0,0,0⟩,6)
abbrev retNx (x:Mt × Int):DV:=.tup [x.1.dc,.one (i64 x.2)]
theorem mcheck1_fn {l:List Pt} {n e:Int} (h1:fchk l=0) (h2:chk n e=0):FnOK Tryz.prog 155 [fld l,.one (.list 2 [[i64 n,i64 e]])] (ret1 0):=by
 have H1:=fCheck_fn l
 have H2:=check_fn n e
 rw [h1] at H1
 rw [h2] at H2
 have hel0:([[i64 n,i64 e]]:List (List D))[((0:Nat):Int).toNat]? = some [i64 n,i64 e]:=rfl
 have hlen:([[i64 n,i64 e]]:List (List D)).length=1:=rfl
 refine fn_ok (by kernel_rfl) ty_ok Tryz.func155 rfl (fun _ _=>Tryz.call155 _ _) rfl ?_
 intro hw
 clear hw
 repeat' ((conv=>whnf);first|(with_reducible first|refine br_t ?_|refine br_f ?_|refine za ?_|refine zg ?_)|refine zp ?_|refine zq ?_|(with_reducible first|refine bc (fun h => ?_) (fun h => ?_)|refine zt ?_|refine zf ?_|refine br_i (fun h => ?_) (fun h => ?_))|refine zg ?_|refine zi ?_|refine zb ?_)
 refine loop_J (by kernel_rfl) ty_ok (σ:=Nat) (fun i=>[(16,sV (.int .i64 i))]) (fun _=>[]) (fun i=>i=0∨i=1) (fun i=>1-i) 0 (.inl rfl) ?_ ?_
 ·(conv=>whnf);exact zent
 intro i hi
 rcases hi with rfl|rfl
 ·repeat' ((conv=>whnf);first|(with_reducible first|refine br_t ?_|refine br_f ?_|refine za ?_|refine zg ?_)|refine zp ?_|refine zq ?_|(with_reducible first|refine bc (fun h => ?_) (fun h => ?_)|refine zt ?_|refine zf ?_|refine br_i (fun h => ?_) (fun h => ?_))|refine zg ?_|refine zi ?_|refine zb ?_)
  all_goals conv=>whnf
  refine ⟨1,.inr rfl,?_,by show 1-1<1-0;decide⟩
  (conv=>whnf);exact zent
 ·exact zw
theorem mNext_fn {l:List Pt} {n e:Int} (h1:fchk l=0) (h2:chk n e=0):FnOK Tryz.prog 94 [fld l,rat n e] (retNx (nxtV l n e)):=by
 have H1:=mcheck1_fn h1 h2
 have H2:=mall_fn h1
 have hasc:=allM_asc h1
 have hlen:(allM l).length≤4096:=by rw [msrt_len];exact outs_len2 (fchk_ok h1).1
 have H3:=mbehind_fn (allM l) n e hasc h2 (by omega)
 have hb:=bcnt_le (allM l) n e
 unfold nxtV
 generalize allM l=L at *
 have hll:(L.map Mt.c).length=L.length:=List.length_map ..
 by_cases h:bcnt L n e<L.length
 ·rw [dif_pos h]
  have hel:=mts_get h
  generalize L[bcnt L n e]=m at *
  generalize bcnt L n e=a at *
  obtain ⟨m1,m2,m3,m4⟩:=m
  simp only [retNx,Mt.dc] at *
  refine fn_ok (by kernel_rfl) ty_ok Tryz.func94 rfl (fun _ _=>Tryz.call94 _ _) rfl ?_
  intro hw
  clear hw
  repeat' ((conv=>whnf);first|(with_reducible first|refine br_t ?_|refine br_f ?_|refine za ?_|refine zg ?_)|rw [List.length_map]|refine zp ?_|refine zq ?_|(with_reducible first|refine bc (fun h => ?_) (fun h => ?_)|refine zt ?_|refine zf ?_|refine br_i (fun h => ?_) (fun h => ?_))|refine zg ?_|refine zi ?_|refine zb ?_)
  all_goals conv=>whnf
  all_goals rfl
 ·rw [dif_neg h]
  generalize bcnt L n e=a at *
  simp only [retNx,Mt.dc]
  refine fn_ok (by kernel_rfl) ty_ok Tryz.func94 rfl (fun _ _=>Tryz.call94 _ _) rfl ?_
  intro hw
  clear hw
  repeat' ((conv=>whnf);first|(with_reducible first|refine br_t ?_|refine br_f ?_|refine za ?_|refine zg ?_)|rw [List.length_map]|refine zp ?_|refine zq ?_|(with_reducible first|refine bc (fun h => ?_) (fun h => ?_)|refine zt ?_|refine zf ?_|refine br_i (fun h => ?_) (fun h => ?_))|refine zg ?_|refine zi ?_|refine zb ?_)
  all_goals conv=>whnf
  all_goals rfl
theorem rmTimes_fn {l:List Pt} {n e:Int} (h1:fchk l=0) (h2:chk n e=0):FnOK Tryz.prog 169 [fld l,rat n e,rat n e] (ret1 0):=by
 have H1:=rfCheck_fn l
 have H2:=rboth_fn n e n e
 have H3:=rcompare_fn n e n e
 rw [h1] at H1
 have e0:bth n e n e=0:=by unfold bth;simp [h2]
 have e1:cmpN (n*e) (n*e)=0:=by unfold cmpN;rw [if_neg (by omega),if_neg (by omega)]
 rw [e0] at H2
 rw [e1] at H3
 refine fn_ok (by kernel_rfl) ty_ok Tryz.func169 rfl (fun _ _=>Tryz.call169 _ _) rfl ?_
 intro hw
 clear hw
 exact zw
theorem rmNext_fn {l:List Pt} {n e:Int} (h1:fchk l=0) (h2:chk n e=0):FnOK Tryz.prog 112 [fld l,rat n e] (retNx (nxtV l n e)):=by
 have H1:=rmTimes_fn h1 h2
 have H2:=rmPairs_fn h1
 have hlen:(allM l).length≤4096:=by rw [msrt_len];exact outs_len2 (fchk_ok h1).1
 have hb:=bcnt_le (allM l) n e
 have hl1:=fun k (h:k<(allM l).length)=>bcnt_lt (l:=allM l) (n:=n) (e:=e) h
 have hl2:=@bcnt_at (allM l) n e
 unfold nxtV
 generalize allM l=L at *
 have hll:(L.map Mt.c).length=L.length:=List.length_map ..
 refine fn_ok (by kernel_rfl) ty_ok Tryz.func112 rfl (fun _ _=>Tryz.call112 _ _) rfl ?_
 intro hw
 clear hw
 repeat' ((conv=>whnf);first|(with_reducible first|refine br_t ?_|refine br_f ?_|refine za ?_|refine zg ?_)|refine zp ?_|refine zq ?_|(with_reducible first|refine bc (fun h => ?_) (fun h => ?_)|refine zt ?_|refine zf ?_|refine br_i (fun h => ?_) (fun h => ?_))|refine zg ?_|refine zi ?_|refine zb ?_)
 refine loop_J (by kernel_rfl) ty_ok (σ:=Nat) (fun i=>[(8,sV (.int .i64 i))]) (fun _=>[]) (fun i=>i≤bcnt L n e) (fun i=>L.length-i) 0 (Nat.zero_le _) ?_ ?_
 ·(conv=>whnf);exact zent
 intro i hi
 rcases Nat.lt_or_ge i L.length with hlt|hge
 ·have hel:=mts_get hlt
  have C:=rcompare_fn L[i].n L[i].d n e
  rcases Nat.lt_or_ge i (bcnt L n e) with hib|hib
  ·have c1:=hl1 i hlt hib
   have e2:cmpN (L[i].n*e) (n*L[i].d)≤0:=by unfold cmpN;split<;>(try split)<;>omega
   generalize cmpN (L[i].n*e) (n*L[i].d)=z at *
   generalize L[i]=m at *
   simp only [ret1] at C
   clear hl1 hl2
   repeat' ((conv=>whnf);first|(with_reducible first|refine br_t ?_|refine br_f ?_|refine za ?_|refine zg ?_)|refine zp ?_|refine zq ?_|(with_reducible first|refine bc (fun h => ?_) (fun h => ?_)|refine zt ?_|refine zf ?_|refine br_i (fun h => ?_) (fun h => ?_))|refine zg ?_|refine zi ?_|refine zb ?_)
   all_goals conv=>whnf
   refine ⟨i+1,hib,?_,by omega⟩
   (conv=>whnf);exact zent
  ·obtain rfl:i=bcnt L n e:=by omega
   rw [dif_pos hlt]
   have c1:=hl2 hlt
   have e2:cmpN (L[bcnt L n e].n*e) (n*L[bcnt L n e].d)=1:=by unfold cmpN;rw [if_neg (by omega),if_pos c1]
   rw [e2] at C
   generalize L[bcnt L n e]=m at *
   generalize bcnt L n e=a at *
   obtain ⟨m1,m2,m3,m4⟩:=m
   simp only [ret1,retNx,Mt.dc] at *
   clear hl1 hl2
   exact zw
 ·have e3:¬ bcnt L n e<L.length:=by omega
  rw [dif_neg e3]
  simp only [retNx,Mt.dc]
  clear hl1 hl2
  exact zw
end Go.Proofs.YtfkfficabeclcaaGreatDoor

namespace Go.Proofs.YtfkfficabeclcaaGreatDoor
open Go.RowKit Go.Sort Sx Go.Lib
def wTime:Str:=[116,105,109,101]
def wPts:Str:=[32,112,111,105,110,116,115]
def wClst:Str:=[99,108,111,115,101,115,116]
def wNext:Str:=[110,101,120,116]
def wClst0:Str:=[99,108,111,115,101,115,116,32,110,111,110,101]
def wNext0:Str:=[110,101,120,116,32,110,111,110,101]
def rowB (n d:Int) (k:Nat) (p:Pt):Str:=joinS [itoa ((k+1:Nat):Int),itoa p.id,(numV (plc p n d).1 (plc p n d).2).1,itoa p.b]
def rowsK (n d:Int) (L:List Pt):Nat→List Str
 | 0=>[]
 | k+1=>rowsK n d L k++(match L[k]? with|some p=>[rowB n d k p]|none=>[])
def headB (m:Md):Str:=joinS [wTime,(numV m.n m.d).1]++joinS [wPts,itoa (m.l.length:Int)]
def clsB (m:Md):Str:=if m.l.length<2 then wClst0 else joinS [wClst,itoa (closV m.l m.n m.d).1,itoa (closV m.l m.n m.d).2.1,(numV (closV m.l m.n m.d).2.2.1 (closV m.l m.n m.d).2.2.2.1).1]
def nxtB (m:Md):Str:=if (nxtV m.l m.n m.d).2=0 then joinS (wNext::mWords (nxtV m.l m.n m.d).1) else wNext0
def linesV (m:Md):List Str:=headB m::rowsK m.n m.d (srt m.n m.d m.l) m.l.length++[clsB m,nxtB m]
def nlS (l:List Str):Str:=l.flatMap fun s=>s++[10]
def stT (m:Md):Str:=nlS (linesV m)
def standV (m:Md):Str × Int:=if mchk m=0 then (stT m,0) else ([],mchk m)
theorem nlS_join:∀ {l:List Str},l≠[]→nlS l=joinC 10 l++[10]
 | [],h=>absurd rfl h
 | [a],_=>by simp [nlS,joinC]
 | a::b::l,_=>by
  have ih:=nlS_join (l:=b::l) (by simp)
  show a++[10]++nlS (b::l)=(a++10::joinC 10 (b::l))++[10]
  rw [ih]
  simp
theorem nlS_app (a b:List Str):nlS (a++b)=nlS a++nlS b:=by unfold nlS;rw [List.flatMap_append]
theorem rowsK_succ {n d:Int} {L:List Pt} {k:Nat} (h:k<L.length):rowsK n d L (k+1)=rowsK n d L k++[rowB n d k L[k]]:=by
 rw [rowsK,List.getElem?_eq_getElem h]
theorem rowsK_len (n d:Int) (L:List Pt):∀ k,k≤L.length→(rowsK n d L k).length=k
 | 0,_=>rfl
 | k+1,h=>by rw [rowsK_succ (by omega),List.length_append,rowsK_len n d L k (by omega)];rfl
theorem posP_mem {l:List Pt} {p:Pt} (hs:incr l=true) (hp:p∈l):has l p.id=true∧∃ h:pos l p.id<l.length,l[pos l p.id]=p:=by
 obtain ⟨k,hk,rfl⟩:=List.getElem_of_mem hp
 obtain ⟨s1,s2⟩:=pos_spec (id:=l[k].id) hs
 have h1:¬ pos l l[k].id<k:=fun h=>by
  have hlt:pos l l[k].id<l.length:=by omega
  have:=s2 _ hlt (Nat.le_refl _)
  have:=incr_lt hs _ _ hk h
  omega
 have h2:¬ k<pos l l[k].id:=fun h=>by have:=s1 k hk h;omega
 have e:pos l l[k].id=k:=by omega
 have e2:∃ h:pos l l[k].id<l.length,l[pos l l[k].id]=l[k]:=⟨by omega,by congr 1⟩
 obtain ⟨h3,h4⟩:=e2
 exact ⟨(has_pos hs).2 ⟨h3,by rw [h4]⟩,h3,h4⟩
theorem findV_mem {l:List Pt} {p:Pt} (h:fchk l=0) (hp:p∈l):findV l p.id=(p,0):=by
 obtain ⟨_,_,hs⟩:=fchk_ok h
 obtain ⟨h1,h2,h3⟩:=posP_mem hs hp
 unfold findV
 rw [if_pos h,if_pos h1,List.getElem?_eq_getElem h2,h3]
 rfl
theorem at1_of {l:List Pt} {p:Pt} (h:fchk l=0) (hp:p∈l):∃ h:pos l p.id<l.length,at1 l p.id 0=(pos l p.id:Int)∧l[pos l p.id]=p:=by
 obtain ⟨_,_,hs⟩:=fchk_ok h
 obtain ⟨h1,h2,h3⟩:=posP_mem hs hp
 exact ⟨h2,by rw [at1_has hs,if_pos h1],h3⟩
end Go.Proofs.YtfkfficabeclcaaGreatDoor

namespace Go.Proofs.YtfkfficabeclcaaGreatDoor
open Go.RowKit Go.Sort Sx Go.Lib
def plcV (id:Int) (x:Int × Int) (v n d:Int):Option Pt :=
 if (mulV v 1 n d).2.2=0 then
  (if (subV x.1 x.2 (mulV v 1 n d).1 (mulV v 1 n d).2.1).2.2=0∧(subV x.1 x.2 (mulV v 1 n d).1 (mulV v 1 n d).2.1).2.1=1∧cpt id (subV x.1 x.2 (mulV v 1 n d).1 (mulV v 1 n d).2.1).1 v=0 then some ⟨id,(subV x.1 x.2 (mulV v 1 n d).1 (mulV v 1 n d).2.1).1,v⟩ else none)
 else none
def pcdP (n d:Int):List Str→Option Pt
 | [a,b,c,e]=>match atoV a,atoV b,frV c,atoV e with
  | some _,some id,some x,some v=>plcV id x v n d
  | _,_,_,_=>none
 | _=>none
def pcdR (n d:Int) (w:List Str):Option Pt :=
 if w.length=4∧(smV (w.getD 1 []) 65535).2=true∧(readR (w.getD 2 [])).2=0∧(wholeR (w.getD 3 [])).2=true ∧ -1048576≤(wholeR (w.getD 3 [])).1∧(wholeR (w.getD 3 [])).1≤1048576
 then plcV (smV (w.getD 1 []) 65535).1 (readR (w.getD 2 [])).1 (wholeR (w.getD 3 [])).1 n d else none
def rdRws (f:List Str→Option Pt):List Str→Option (List Pt)
 | []=>some []
 | a::l=>match f (spl 32 a) with
  | some p=>(rdRws f l).map fun r=>p::r
  | none=>none
def idS (l:List Pt):List Pt:=l.mergeSort fun a b=>decide (a.id≤b.id)
theorem idS_perm (l:List Pt):(idS l).Perm l:=List.mergeSort_perm _ _
theorem idS_sorted (l:List Pt):(idS l).Pairwise fun a b=>a.id≤b.id:=by
 have h:=List.pairwise_mergeSort (le:=fun (a b:Pt)=>decide (a.id≤b.id)) (fun a b c h1 h2=>by simp only [decide_eq_true_eq] at *;omega) (fun a b=>by simp only [Bool.or_eq_true,decide_eq_true_eq];omega) l
 exact h.imp fun h=>of_decide_eq_true h
theorem incr_pair {l:List Pt} (h:incr l=true):l.Pairwise fun a b=>a.id≤b.id :=
 List.pairwise_iff_getElem.2 fun i j hi hj hij=>by have:=incr_lt h j i hj hij;omega
theorem apart_perm {l l':List Pt} (h:apart l) (hp:l'.Perm l):apart l':=fun p hp' q hq e=>h p (hp.mem_iff.1 hp') q (hp.mem_iff.1 hq) e
theorem idS_one {l l':List Pt} (hp:l'.Perm l) (hs:l'.Pairwise fun a b=>a.id≤b.id) (ha:apart l):l'=idS l:=by
 refine List.Perm.eq_of_pairwise (le:=fun a b:Pt=>a.id≤b.id) (fun a b h1 h2 h3 h4 => ?_) hs (idS_sorted l) (hp.trans (idS_perm l).symm)
 exact ha a (hp.mem_iff.1 h1) b ((idS_perm l).mem_iff.1 h2) (by omega)
theorem backS_apart {n d:Int} {l l':List Pt} (hp:l'.Perm l) (h:mchk ⟨n,d,l'⟩=0):apart l :=
 apart_perm (incr_apart (fchk_ok (mchk_ok h).2).2.2) hp.symm
def backS (s:Str) (r:Option (Int × Int × List Pt)):Md × Int:=match r with
 | some r=>if mchk ⟨r.1,r.2.1,idS r.2.2⟩=0∧stT ⟨r.1,r.2.1,idS r.2.2⟩=s then (⟨r.1,r.2.1,idS r.2.2⟩,0) else (⟨0,0,[]⟩,12)
 | none=>(⟨0,0,[]⟩,12)
theorem backS_any {s:Str} {n d:Int} {l l':List Pt} (hp:l'.Perm l) (hs:l'.Pairwise fun a b=>a.id≤b.id) :
  backS s (some (n,d,l))=if mchk ⟨n,d,l'⟩=0∧stT ⟨n,d,l'⟩=s then (⟨n,d,l'⟩,0) else (⟨0,0,[]⟩,12):=by
 unfold backS
 dsimp only
 by_cases ha:apart l
 ·rw [idS_one hp hs ha]
 ·rw [if_neg (fun h=>ha (backS_apart (idS_perm l) h.1)),if_neg (fun h=>ha (backS_apart hp h.1))]
def srdG (rd:Str→Option (Int × Int)) (f:Int→Int→List Str→Option Pt) (s:Str):Option (Int × Int × List Pt) :=
 if (spl 10 s).length<4∨68<(spl 10 s).length∨(spl 32 ((spl 10 s).headD [])).length≠4 then none
 else match rd ((spl 32 ((spl 10 s).headD [])).getD 1 []) with
  | some q=>(rdRws (f q.1 q.2) (((spl 10 s).take ((spl 10 s).length-3)).drop 1)).map fun l=>(q.1,q.2,l)
  | none=>none
def nowR (s:Str):Option (Int × Int):=if (readR s).2=0∧askd (readR s).1.1 (readR s).1.2=0 then some (readR s).1 else none
def srdP (s:Str):Md × Int:=backS s (srdG frV pcdP s)
def srdR (s:Str):Md × Int:=backS s (srdG nowR pcdR s)
def sreadP (s:Str):Md × Int:=if 110000<s.length then (⟨0,0,[]⟩,4) else srdP s
def sreadR (s:Str):Md × Int:=if 110000<s.length then (⟨0,0,[]⟩,4) else srdR s
theorem backS_ok {s:Str} {m:Option (Int × Int × List Pt)} (h:(backS s m).2=0):mchk (backS s m).1=0∧stT (backS s m).1=s:=by
 unfold backS at h ⊢
 cases m with
 | none=>cases h
 | some m =>
  dsimp only at h ⊢
  split at h
  ·rename_i c;rw [if_pos c];exact c
  ·cases h
theorem backS_no {s:Str} {m:Option (Int × Int × List Pt)} (h:(backS s m).2≠0):backS s m=(⟨0,0,[]⟩,12):=by
 unfold backS at h ⊢
 cases m with
 | none=>rfl
 | some m =>
  dsimp only at h ⊢
  split at h
  ·exact absurd rfl h
  ·rename_i c;rw [if_neg c]
theorem num_no10 (n d:Int):(10:UInt8) ∉ (numV n d).1:=by
 unfold numV wrtV
 intro h
 split at h
 ·dsimp only at h
  split at h
  ·exact itoa_no10 _ h
  ·rcases List.mem_append.1 h with h|h
   ·exact itoa_no10 _ h
   ·rcases List.mem_cons.1 h with h|h
    ·exact absurd h (by decide)
    ·exact itoa_no10 _ h
 ·cases h
theorem joinS_no {c:UInt8} (hc:c≠32):∀ {l:List Str},(∀ x∈l,c ∉ x)→c ∉ joinS l
 | [],_=>by intro h;cases h
 | [a],h=>h a (List.mem_cons_self ..)
 | a::b::l,h=>by
  show c ∉ a++32::joinS (b::l)
  intro hm
  rcases List.mem_append.1 hm with hm|hm
  ·exact h a (List.mem_cons_self ..) hm
  ·rcases List.mem_cons.1 hm with hm|hm
   ·exact hc hm
   ·exact joinS_no hc (fun x hx=>h x (List.mem_cons_of_mem _ hx)) hm
theorem rowB_words (n d:Int) (k:Nat) (p:Pt) {c:UInt8} (h:∀ m,c ∉ itoa m) (h2:∀ a b,c ∉ (numV a b).1):∀ x∈[itoa ((k+1:Nat):Int),itoa p.id,(numV (plc p n d).1 (plc p n d).2).1,itoa p.b],c ∉ x:=by
 intro x hx
 simp only [List.mem_cons,List.not_mem_nil,or_false] at hx
 rcases hx with rfl|rfl|rfl|rfl
 ·exact h _
 ·exact h _
 ·exact h2 _ _
 ·exact h _
theorem rowsK_no (n d:Int) (L:List Pt):∀ k,∀ x∈rowsK n d L k,(10:UInt8) ∉ x
 | 0,x,hx=>by cases hx
 | k+1,x,hx=>by
  rw [rowsK] at hx
  rcases List.mem_append.1 hx with hx|hx
  ·exact rowsK_no n d L k x hx
  ·split at hx
   ·obtain rfl:=List.mem_singleton.1 hx
    exact joinS_no (by decide) (rowB_words n d k _ itoa_no10 num_no10)
   ·cases hx
theorem two_no {w a:Str} {c:UInt8} (hc:c≠32) (h1:c ∉ w) (h2:c ∉ a):c ∉ joinS [w,a]:=joinS_no hc fun x hx=>by
 simp only [List.mem_cons,List.not_mem_nil,or_false] at hx
 rcases hx with rfl|rfl<;>assumption
theorem headB_no (m:Md):(10:UInt8) ∉ headB m:=fun h=>by
 unfold headB at h
 rcases List.mem_append.1 h with h|h
 ·exact two_no (by decide) (by decide) (num_no10 _ _) h
 ·exact two_no (by decide) (by decide) (itoa_no10 _) h
theorem mWords_no (m:Mt):∀ x∈mWords m,(10:UInt8) ∉ x:=fun x hx=>by
 unfold mWords at hx
 simp only [List.mem_cons,List.not_mem_nil,or_false] at hx
 rcases hx with rfl|rfl|rfl
 ·exact num_no10 _ _
 ·exact itoa_no10 _
 ·exact itoa_no10 _
theorem clsB_no (m:Md):(10:UInt8) ∉ clsB m:=by
 unfold clsB
 split
 ·decide
 ·refine joinS_no (by decide) fun x hx => ?_
  simp only [List.mem_cons,List.not_mem_nil,or_false] at hx
  rcases hx with rfl|rfl|rfl|rfl
  ·decide
  ·exact itoa_no10 _
  ·exact itoa_no10 _
  ·exact num_no10 _ _
theorem nxtB_no (m:Md):(10:UInt8) ∉ nxtB m:=by
 unfold nxtB
 split
 ·refine joinS_no (by decide) fun x hx => ?_
  rcases List.mem_cons.1 hx with rfl|hx
  ·decide
  ·exact mWords_no _ x hx
 ·decide
theorem linesV_no (m:Md):∀ x∈linesV m,(10:UInt8) ∉ x:=fun x hx=>by
 unfold linesV at hx
 rcases List.mem_append.1 hx with hx|hx
 ·rcases List.mem_cons.1 hx with rfl|hx
  ·exact headB_no m
  ·exact rowsK_no _ _ _ _ x hx
 ·simp only [List.mem_cons,List.not_mem_nil,or_false] at hx
  rcases hx with rfl|rfl
  ·exact clsB_no m
  ·exact nxtB_no m
theorem linesV_len (m:Md):(linesV m).length=m.l.length+3:=by
 unfold linesV
 rw [List.length_append,List.length_cons,rowsK_len _ _ _ _ (by rw [srt_len];exact Nat.le_refl _)]
 rfl
theorem spl_stT (m:Md):spl 10 (stT m)=linesV m++[[]]:=spl_end (linesV_no m)
theorem spl_head (m:Md):spl 32 (headB m)=[wTime,(numV m.n m.d).1,[112,111,105,110,116,115],itoa (m.l.length:Int)]:=by
 have e:headB m=wTime++32::((numV m.n m.d).1++32::([112,111,105,110,116,115]++32::itoa (m.l.length:Int))):=by
  unfold headB
  show (wTime++32::(numV m.n m.d).1)++(wPts++32::itoa _)=_
  simp [wPts]
 rw [e,spl_at _ (by decide),spl_at _ (num_no32 _ _),spl_at _ (by decide),spl_no (itoa_no32 _)]
theorem spl_row (n d:Int) (k:Nat) (p:Pt):spl 32 (rowB n d k p)=[itoa ((k+1:Nat):Int),itoa p.id,(numV (plc p n d).1 (plc p n d).2).1,itoa p.b] :=
 spl_join (by simp) (rowB_words n d k p itoa_no32 num_no32)
theorem plcV_of {p:Pt} {n d:Int} (hp:p.chk=0) (ht:askd n d=0):plcV p.id (plc p n d) p.b n d=some p:=by
 obtain ⟨t1,t2,t3,t4,t5⟩:=askd_ok ht
 have c:=p.chk_ok hp
 obtain ⟨_,x1,x2,x3,x4,x5,x6⟩:=plc_ok hp ht
 have hb1:chk p.b 1=0:=(chk_iff _ _).2 ⟨by omega,by omega,Nat.coprime_one_right _⟩
 have hbn:=prod_in2 p.b n 1048576 1073741824 (by omega) (by omega) (by omega) (by omega)
 obtain ⟨y1,y2,e1,e2,e3,e4,e5,e6⟩:=outQ_sm (n:=p.b*n) (d:=1*d) (by omega) (by omega) (by omega) (by omega)
 have hm:mulV p.b 1 n d=(y1,y2,0):=by rw [mulV_q hb1 t1,qv_mul (by omega) t4,e1]
 have hs:subV (plc p n d).1 (plc p n d).2 y1 y2=(p.a,1,0):=by
  rw [subV_q x1 e2 (by omega),x2,e3,qv_sub t4 (by omega),Int.one_mul]
  have hq:qv ((p.a*d+p.b*n)*d-p.b*n*d) (d*d)=qv p.a 1:=by
   have hdd:1≤d*d:=by have:=Int.mul_le_mul t4 t4 (by omega) (by omega);simpa using this
   rw [qv_eq hdd (by omega),Int.add_mul,Int.mul_one,Int.add_sub_cancel,Int.mul_assoc]
  rw [hq]
  obtain ⟨z1,z2,f1,f2,f3,f4,f5,f6⟩:=outQ_sm (n:=p.a) (d:=1) (by omega) (by omega) (by omega) (by omega)
  obtain rfl:z2=1:=by omega
  rw [f1]
  have:=(qv_eq (n:=z1) (m:=p.a) (d:=1) (e:=1) (by omega) (by omega)).1 f3
  obtain rfl:z1=p.a:=by omega
  rfl
 unfold plcV
 rw [hm]
 dsimp only
 rw [hs]
 rw [if_pos rfl,if_pos ⟨rfl,rfl,hp⟩]
theorem plc_fit {p:Pt} {n d:Int} (hp:p.chk=0) (ht:askd n d=0):fit2 (plc p n d).1 (plc p n d).2:=by
 obtain ⟨_,x1,x2,x3,x4,x5,x6⟩:=plc_ok hp ht
 unfold fit2 fitI
 omega
theorem rdRws_of {f:List Str→Option Pt} {n d:Int} {L:List Pt} (hf:∀ k,(h:k<L.length)→f [itoa ((k+1:Nat):Int),itoa L[k].id,(numV (plc L[k] n d).1 (plc L[k] n d).2).1,itoa L[k].b]=some L[k]):∀ k,k≤L.length→rdRws f (rowsK n d L k)=some (L.take k)
 | 0,_=>by rw [List.take_zero];rfl
 | k+1,h=>by
  have ih:=rdRws_of hf k (by omega)
  have key:∀ (A:List Str) (R:List Pt) (x:Str) (p:Pt),rdRws f A=some R→f (spl 32 x)=some p→rdRws f (A++[x])=some (R++[p]):=by
   intro A
   induction A with
   | nil =>
    intro R x p h1 h2
    rw [rdRws] at h1
    injection h1 with h1
    subst h1
    rw [List.nil_append,rdRws,h2]
    rfl
   | cons a A ihA =>
    intro R x p h1 h2
    rw [rdRws] at h1
    rw [List.cons_append,rdRws]
    cases h3:f (spl 32 a) with
    | none=>rw [h3] at h1;cases h1
    | some q =>
     rw [h3] at h1
     dsimp only at h1 ⊢
     cases h4:rdRws f A with
     | none=>rw [h4] at h1;cases h1
     | some R' =>
      rw [h4] at h1
      injection h1 with h1
      subst h1
      rw [ihA R' x p h4 h2]
      rfl
  rw [rowsK_succ (by omega),List.take_succ_eq_append_getElem (by omega)]
  exact key _ _ _ _ ih (by rw [spl_row];exact hf k (by omega))
theorem srdG_of {rd:Str→Option (Int × Int)} {f:Int→Int→List Str→Option Pt} {m:Md} (hm:mchk m=0) (h1:rd (numV m.n m.d).1=some (m.n,m.d))
  (hf:∀ p:Pt,p.chk=0→∀ k:Nat,k<64→f m.n m.d [itoa ((k+1:Nat):Int),itoa p.id,(numV (plc p m.n m.d).1 (plc p m.n m.d).2).1,itoa p.b]=some p):srdG rd f (stT m)=some (m.n,m.d,srt m.n m.d m.l):=by
 obtain ⟨g1,g2⟩:=mchk_ok hm
 obtain ⟨k1,k2,k3⟩:=fchk_ok g2
 have hl:=linesV_len m
 have hsl:(srt m.n m.d m.l).length=m.l.length:=srt_len ..
 unfold srdG
 rw [spl_stT]
 have hh:(linesV m++[[]]).headD []=headB m:=rfl
 have hlen:(linesV m++[[]]).length=m.l.length+4:=by rw [List.length_append,hl];rfl
 rw [hh,hlen,spl_head,if_neg (by simp only [List.length_cons,List.length_nil];omega)]
 simp only [List.getD_cons_succ,List.getD_cons_zero]
 rw [h1]
 dsimp only
 have ht:((linesV m++[[]]).take (m.l.length+4-3)).drop 1=rowsK m.n m.d (srt m.n m.d m.l) m.l.length:=by
  have hr:=rowsK_len m.n m.d (srt m.n m.d m.l) m.l.length (by omega)
  have e:linesV m++[[]]=(headB m::rowsK m.n m.d (srt m.n m.d m.l) m.l.length)++[clsB m,nxtB m,[]]:=by unfold linesV;rw [List.append_assoc];rfl
  rw [e,List.take_append_of_le_length (by rw [List.length_cons,hr];omega),List.take_of_length_le (by rw [List.length_cons,hr];omega)]
  rfl
 rw [ht,rdRws_of (L:=srt m.n m.d m.l) (fun k hk=>hf _ (k2 _ ((srt_perm m.n m.d m.l).mem_iff.1 (List.getElem_mem hk))) k (by omega)) m.l.length (by omega),← hsl,List.take_length]
 rfl
theorem backS_of {m:Md} (hm:mchk m=0):backS (stT m) (some (m.n,m.d,srt m.n m.d m.l))=(m,0):=by
 obtain ⟨k1,k2,k3⟩:=fchk_ok (mchk_ok hm).2
 rw [backS_any (l':=m.l) (srt_perm m.n m.d m.l).symm (incr_pair k3),if_pos ⟨hm,rfl⟩]
theorem pcdP_of {p:Pt} {n d:Int} (hp:p.chk=0) (ht:askd n d=0) (k:Nat) (hk:k<64):pcdP n d [itoa ((k+1:Nat):Int),itoa p.id,(numV (plc p n d).1 (plc p n d).2).1,itoa p.b]=some p:=by
 have c:=p.chk_ok hp
 obtain ⟨_,x1,_⟩:=plc_ok hp ht
 show (match atoV (itoa ((k+1:Nat):Int)),atoV (itoa p.id),frV (numV (plc p n d).1 (plc p n d).2).1,atoV (itoa p.b) with
  | some _,some id,some x,some v=>plcV id x v n d
  | _,_,_,_=>none)=_
 rw [atoV_id (n:=((k+1:Nat):Int)) (by omega) (by omega),atoV_id c.1 c.2.1,frV_of x1 (plc_fit hp ht),atoV_itoa (by rw [show (10:Nat) ^ 17=100000000000000000 by decide];omega)]
 exact plcV_of hp ht
theorem pcdR_of {p:Pt} {n d:Int} (hp:p.chk=0) (ht:askd n d=0) (k:Nat) (hk:k<64):pcdR n d [itoa ((k+1:Nat):Int),itoa p.id,(numV (plc p n d).1 (plc p n d).2).1,itoa p.b]=some p:=by
 have c:=p.chk_ok hp
 obtain ⟨_,x1,_⟩:=plc_ok hp ht
 have hf:=plc_fit hp ht
 unfold pcdR
 simp only [List.getD_cons_zero,List.getD_cons_succ]
 rw [smV_of c.1 c.2.1 (by decide),show (numV (plc p n d).1 (plc p n d).2).1=wrtV (plc p n d).1 (plc p n d).2 by unfold numV;rw [if_pos x1],readR_is.of _ _ x1 hf.1 hf.2,wholeR_itoa (by unfold fitI;omega)]
 rw [if_pos ⟨rfl,rfl,rfl,rfl,by show _≤p.b;omega,by show p.b≤_;omega⟩]
 exact plcV_of hp ht
theorem now_fit {n d:Int} (ht:askd n d=0):fit2 n d:=by
 have:=askd_ok ht
 unfold fit2 fitI
 omega
theorem srdP_is:Reads stT (fun m=>mchk m=0) ⟨0,0,[]⟩ srdP:=by
 refine ⟨fun s h=>backS_ok h,fun s h=>backS_no h,fun m hm => ?_⟩
 obtain ⟨g1,g2⟩:=mchk_ok hm
 unfold srdP
 rw [srdG_of hm (frV_of (askd_ok g1).1 (now_fit g1)) fun p hp k hk=>pcdP_of hp g1 k hk]
 exact backS_of hm
theorem srdR_is:Reads stT (fun m=>mchk m=0) ⟨0,0,[]⟩ srdR:=by
 refine ⟨fun s h=>backS_ok h,fun s h=>backS_no h,fun m hm => ?_⟩
 obtain ⟨g1,g2⟩:=mchk_ok hm
 have c:=(askd_ok g1).1
 have hf:=now_fit g1
 unfold srdR
 rw [srdG_of hm (by
  unfold nowR
  rw [show (numV m.n m.d).1=wrtV m.n m.d by unfold numV;rw [if_pos c],readR_is.of _ _ c hf.1 hf.2,if_pos ⟨rfl,g1⟩]) fun p hp k hk=>pcdR_of hp g1 k hk]
 exact backS_of hm
theorem sread_eq (s:Str):sreadP s=sreadR s:=by
 unfold sreadP sreadR
 rw [srdP_is.eq srdR_is s]
end Go.Proofs.YtfkfficabeclcaaGreatDoor

namespace Go.Proofs.YtfkfficabeclcaaGreatDoor
open Go Go.RowKit Go.Sort Sx
open Go.Lib hiding intOf
set_option maxRecDepth 2000
abbrev retSm (x:Int × Bool):DV:=.tup [.one (i64 x.1),.one (bol x.2)]
theorem rtsmall_fn (s:Str) (hi:Int) (hs:s.length≤1000000):FnOK Tryz.prog 116 [.one (str s),.one (i64 hi)] (retSm (smV s hi)):=by
 have H:=rcWhole_fn s hs
 unfold smV
 generalize wholeR s=p at *
 obtain ⟨n,b⟩:=p
 simp only [retWr] at H ⊢
 refine fn_ok (by kernel_rfl) ty_ok Tryz.func116 rfl (fun _ _=>Tryz.call116 _ _) rfl ?_
 intro hw
 clear hw
 cases b
 ·repeat' ((conv=>whnf);first|(with_reducible first|refine br_t ?_|refine br_f ?_|refine za ?_|refine zg ?_)|refine zsl ?_|refine zsg ?_|refine zss ?_|refine zs1 ?_|refine zse ?_|refine zsn ?_|refine zsc ?_|(with_reducible first|refine zpa ?_|refine zqa ?_)|refine zp ?_|refine zq ?_|(with_reducible first|refine bc (fun h => ?_) (fun h => ?_)|refine zt ?_|refine zf ?_|refine br_i (fun h => ?_) (fun h => ?_))|refine zg ?_|refine zi ?_|refine zb ?_)
  all_goals conv=>whnf
  all_goals rfl
 ·by_cases h0:0≤n
  ·rw [decide_eq_true h0]
   repeat' ((conv=>whnf);first|(with_reducible first|refine br_t ?_|refine br_f ?_|refine za ?_|refine zg ?_)|refine zsl ?_|refine zsg ?_|refine zss ?_|refine zs1 ?_|refine zse ?_|refine zsn ?_|refine zsc ?_|(with_reducible first|refine zpa ?_|refine zqa ?_)|refine zp ?_|refine zq ?_|(with_reducible first|refine bc (fun h => ?_) (fun h => ?_)|refine zt ?_|refine zf ?_|refine br_i (fun h => ?_) (fun h => ?_))|refine zg ?_|refine zi ?_|refine zb ?_)
   all_goals conv=>whnf
   all_goals rfl
  ·rw [decide_eq_false h0]
   repeat' ((conv=>whnf);first|(with_reducible first|refine br_t ?_|refine br_f ?_|refine za ?_|refine zg ?_)|refine zsl ?_|refine zsg ?_|refine zss ?_|refine zs1 ?_|refine zse ?_|refine zsn ?_|refine zsc ?_|(with_reducible first|refine zpa ?_|refine zqa ?_)|refine zp ?_|refine zq ?_|(with_reducible first|refine bc (fun h => ?_) (fun h => ?_)|refine zt ?_|refine zf ?_|refine br_i (fun h => ?_) (fun h => ?_))|refine zg ?_|refine zi ?_|refine zb ?_)
   all_goals conv=>whnf
   all_goals rfl
end Go.Proofs.YtfkfficabeclcaaGreatDoor

namespace Go.Proofs.YtfkfficabeclcaaGreatDoor
open Go Go.RowKit Go.Sort Sx
open Go.Lib hiding intOf
set_option maxRecDepth 2000
def rcZ (n d:Int) (w:List Str):Pt × Bool :=
 if w.length=4∧(smV (w.getD 1 []) 65535).2=true∧(readR (w.getD 2 [])).2=0∧(wholeR (w.getD 3 [])).2=true ∧ -1048576≤(wholeR (w.getD 3 [])).1∧(wholeR (w.getD 3 [])).1≤1048576 then
  (⟨(smV (w.getD 1 []) 65535).1,(subV (readR (w.getD 2 [])).1.1 (readR (w.getD 2 [])).1.2 (mulV (wholeR (w.getD 3 [])).1 1 n d).1 (mulV (wholeR (w.getD 3 [])).1 1 n d).2.1).1,(wholeR (w.getD 3 [])).1⟩,
   decide ((mulV (wholeR (w.getD 3 [])).1 1 n d).2.2=0∧(subV (readR (w.getD 2 [])).1.1 (readR (w.getD 2 [])).1.2 (mulV (wholeR (w.getD 3 [])).1 1 n d).1 (mulV (wholeR (w.getD 3 [])).1 1 n d).2.1).2.2=0∧(subV (readR (w.getD 2 [])).1.1 (readR (w.getD 2 [])).1.2 (mulV (wholeR (w.getD 3 [])).1 1 n d).1 (mulV (wholeR (w.getD 3 [])).1 1 n d).2.1).2.1=1))
 else (⟨0,0,0⟩,false)
theorem rcZ_is (n d:Int) (w:List Str):pcdR n d w=if (rcZ n d w).2=true∧(rcZ n d w).1.chk=0 then some (rcZ n d w).1 else none:=by
 unfold pcdR rcZ
 split
 ·unfold plcV
  generalize mulV (wholeR (w.getD 3 [])).1 1 n d=m
  generalize subV (readR (w.getD 2 [])).1.1 (readR (w.getD 2 [])).1.2 m.1 m.2.1=s
  by_cases h1:m.2.2=0
  ·rw [if_pos h1]
   by_cases h2:s.2.2=0∧s.2.1=1
   ·rw [decide_eq_true ⟨h1,h2⟩]
    by_cases h3:cpt (smV (w.getD 1 []) 65535).1 s.1 (wholeR (w.getD 3 [])).1=0
    ·rw [if_pos ⟨h2.1,h2.2,h3⟩,if_pos ⟨rfl,h3⟩]
    ·rw [if_neg (fun h=>h3 h.2.2),if_neg (fun h=>h3 h.2)]
   ·rw [decide_eq_false (fun h=>h2 h.2),if_neg (fun h=>h2 ⟨h.1,h.2.1⟩),if_neg (fun h=>by cases h.1)]
  ·rw [if_neg h1,decide_eq_false (fun h=>h1 h.1),if_neg (fun h=>by cases h.1)]
 ·rw [if_neg (fun h=>by cases h.1)]
abbrev retPc (x:Pt × Bool):DV:=.tup [x.1.dc,.one (bol x.2)]
theorem rtplaced_no (n d:Int) (w:List Str) (h:w.length≠4):FnOK Tryz.prog 61 [.one (strs w),rat n d] (retPc (⟨0,0,0⟩,false)):=by
 have hl:(w.map fun s=>[str s]).length=w.length:=List.length_map ..
 simp only [retPc,Pt.dc]
 refine fn_ok (by kernel_rfl) ty_ok Tryz.func61 rfl (fun _ _=>Tryz.call61 _ _) rfl ?_
 intro hw
 clear hw
 repeat' ((conv=>whnf);first|(with_reducible first|refine br_t ?_|refine br_f ?_|refine za ?_|refine zg ?_)|refine zsl ?_|refine zsg ?_|refine zss ?_|refine zs1 ?_|refine zse ?_|refine zsn ?_|refine zsc ?_|(with_reducible first|refine zpa ?_|refine zqa ?_)|refine zp ?_|refine zq ?_|(with_reducible first|refine bc (fun h => ?_) (fun h => ?_)|refine zt ?_|refine zf ?_|refine br_i (fun h => ?_) (fun h => ?_))|refine zg ?_|refine zi ?_|refine zb ?_)
 all_goals conv=>whnf
 all_goals rfl
set_option maxRecDepth 100000 in
set_option maxHeartbeats 4000000 in
theorem rtplaced_four (n d:Int) (a b c e:Str) (hb:b.length≤100000) (hc:c.length≤100000) (he:e.length≤100000):FnOK Tryz.prog 61 [.one (strs [a,b,c,e]),rat n d] (retPc (rcZ n d [a,b,c,e])):=by
 have Hb:=rtsmall_fn b 65535 (by omega)
 have Hc:=rcReadNumber_fn c hc
 have He:=rcWhole_fn e (by omega)
 have g1:(List.map (fun s=>[str s]) [a,b,c,e])[(1:Int).toNat]? = some [str b]:=rfl
 have g2:(List.map (fun s=>[str s]) [a,b,c,e])[(2:Int).toNat]? = some [str c]:=rfl
 have g3:(List.map (fun s=>[str s]) [a,b,c,e])[(3:Int).toNat]? = some [str e]:=rfl
 have g4:(List.map (fun s=>[str s]) [a,b,c,e]).length=4:=rfl
 have hrz:rcZ n d [a,b,c,e]=if (smV b 65535).2=true∧(readR c).2=0∧(wholeR e).2=true ∧ -1048576≤(wholeR e).1∧(wholeR e).1≤1048576 then
  (⟨(smV b 65535).1,(subV (readR c).1.1 (readR c).1.2 (mulV (wholeR e).1 1 n d).1 (mulV (wholeR e).1 1 n d).2.1).1,(wholeR e).1⟩,
   decide ((mulV (wholeR e).1 1 n d).2.2=0∧(subV (readR c).1.1 (readR c).1.2 (mulV (wholeR e).1 1 n d).1 (mulV (wholeR e).1 1 n d).2.1).2.2=0∧(subV (readR c).1.1 (readR c).1.2 (mulV (wholeR e).1 1 n d).1 (mulV (wholeR e).1 1 n d).2.1).2.1=1))
  else (⟨0,0,0⟩,false):=by
  unfold rcZ
  simp only [List.getD_cons_zero,List.getD_cons_succ,List.length_cons,List.length_nil,Nat.reduceAdd,true_and]
 rw [hrz]
 clear hrz
 generalize smV b 65535=p at *
 generalize readR c=r at *
 generalize wholeR e=q at *
 obtain ⟨⟨xn,xd⟩,xe⟩:=r
 obtain ⟨pi,pb⟩:=p
 obtain ⟨qi,qb⟩:=q
 simp only at Hb Hc He ⊢
 simp only [retSm,retR3,retWr] at Hb Hc He ⊢
 have Hm:=rmul_fn qi 1 n d
 generalize mulV qi 1 n d=mv at *
 obtain ⟨mn,md,me⟩:=mv
 have Hs:=rsub_fn xn xd mn md
 generalize subV xn xd mn md=sv at *
 obtain ⟨sn,sd,se⟩:=sv
 simp only [ret3,rat2] at Hm Hs ⊢
 simp only [retPc,Pt.dc]
 cases pb
 ·rw [if_neg (by simp)]
  refine fn_ok (by kernel_rfl) ty_ok Tryz.func61 rfl (fun _ _=>Tryz.call61 _ _) rfl ?_
  intro hw
  clear hw
  repeat' ((conv=>whnf);first|(with_reducible first|refine br_t ?_|refine br_f ?_|refine za ?_|refine zg ?_)|refine zsl ?_|refine zsg ?_|refine zss ?_|refine zs1 ?_|refine zse ?_|refine zsn ?_|refine zsc ?_|(with_reducible first|refine zpa ?_|refine zqa ?_)|refine zp ?_|refine zq ?_|(with_reducible first|refine bc (fun h => ?_) (fun h => ?_)|refine zt ?_|refine zf ?_|refine br_i (fun h => ?_) (fun h => ?_))|refine zg ?_|refine zi ?_|refine zb ?_)
  all_goals conv=>whnf
  all_goals rfl
 ·by_cases h:xe=0
  ·cases qb
   ·rw [if_neg (by simp)]
    refine fn_ok (by kernel_rfl) ty_ok Tryz.func61 rfl (fun _ _=>Tryz.call61 _ _) rfl ?_
    intro hw
    clear hw
    repeat' ((conv=>whnf);first|(with_reducible first|refine br_t ?_|refine br_f ?_|refine za ?_|refine zg ?_)|refine zsl ?_|refine zsg ?_|refine zss ?_|refine zs1 ?_|refine zse ?_|refine zsn ?_|refine zsc ?_|(with_reducible first|refine zpa ?_|refine zqa ?_)|refine zp ?_|refine zq ?_|(with_reducible first|refine bc (fun h => ?_) (fun h => ?_)|refine zt ?_|refine zf ?_|refine br_i (fun h => ?_) (fun h => ?_))|refine zg ?_|refine zi ?_|refine zb ?_)
    all_goals conv=>whnf
    all_goals rfl
   ·by_cases h1:qi≤1048576
    ·by_cases h2 : -1048576≤qi
     ·rw [if_pos ⟨rfl,h,rfl,h2,h1⟩]
      by_cases k1:me=0
      ·by_cases k2:se=0
       ·by_cases k3:sd=1
        ·rw [decide_eq_true ⟨k1,k2,k3⟩]
         have eb:(sd == 1)=true:=beq_iff_eq.2 k3
         refine fn_ok (by kernel_rfl) ty_ok Tryz.func61 rfl (fun _ _=>Tryz.call61 _ _) rfl ?_
         intro hw
         clear hw
         repeat' ((conv=>whnf);first|(with_reducible first|refine br_t ?_|refine br_f ?_|refine za ?_|refine zg ?_)|refine zsl ?_|refine zsg ?_|refine zss ?_|refine zs1 ?_|refine zse ?_|refine zsn ?_|refine zsc ?_|(with_reducible first|refine zpa ?_|refine zqa ?_)|refine zp ?_|refine zq ?_|(with_reducible first|refine bc (fun h => ?_) (fun h => ?_)|refine zt ?_|refine zf ?_|refine br_i (fun h => ?_) (fun h => ?_))|refine zg ?_|refine zi ?_|refine zb ?_)
         all_goals conv=>whnf
         all_goals first|rfl|rw [eb]
        ·rw [decide_eq_false (fun h=>k3 h.2.2)]
         have eb:(sd == 1)=false:=beq_eq_false_iff_ne.2 k3
         refine fn_ok (by kernel_rfl) ty_ok Tryz.func61 rfl (fun _ _=>Tryz.call61 _ _) rfl ?_
         intro hw
         clear hw
         repeat' ((conv=>whnf);first|(with_reducible first|refine br_t ?_|refine br_f ?_|refine za ?_|refine zg ?_)|refine zsl ?_|refine zsg ?_|refine zss ?_|refine zs1 ?_|refine zse ?_|refine zsn ?_|refine zsc ?_|(with_reducible first|refine zpa ?_|refine zqa ?_)|refine zp ?_|refine zq ?_|(with_reducible first|refine bc (fun h => ?_) (fun h => ?_)|refine zt ?_|refine zf ?_|refine br_i (fun h => ?_) (fun h => ?_))|refine zg ?_|refine zi ?_|refine zb ?_)
         all_goals conv=>whnf
         all_goals first|rfl|rw [eb]
       ·rw [decide_eq_false (fun h=>k2 h.2.1)]
        refine fn_ok (by kernel_rfl) ty_ok Tryz.func61 rfl (fun _ _=>Tryz.call61 _ _) rfl ?_
        intro hw
        clear hw
        repeat' ((conv=>whnf);first|(with_reducible first|refine br_t ?_|refine br_f ?_|refine za ?_|refine zg ?_)|refine zsl ?_|refine zsg ?_|refine zss ?_|refine zs1 ?_|refine zse ?_|refine zsn ?_|refine zsc ?_|(with_reducible first|refine zpa ?_|refine zqa ?_)|refine zp ?_|refine zq ?_|(with_reducible first|refine bc (fun h => ?_) (fun h => ?_)|refine zt ?_|refine zf ?_|refine br_i (fun h => ?_) (fun h => ?_))|refine zg ?_|refine zi ?_|refine zb ?_)
        all_goals conv=>whnf
        all_goals first|rfl|rw [eb]
      ·rw [decide_eq_false (fun h=>k1 h.1)]
       refine fn_ok (by kernel_rfl) ty_ok Tryz.func61 rfl (fun _ _=>Tryz.call61 _ _) rfl ?_
       intro hw
       clear hw
       repeat' ((conv=>whnf);first|(with_reducible first|refine br_t ?_|refine br_f ?_|refine za ?_|refine zg ?_)|refine zsl ?_|refine zsg ?_|refine zss ?_|refine zs1 ?_|refine zse ?_|refine zsn ?_|refine zsc ?_|(with_reducible first|refine zpa ?_|refine zqa ?_)|refine zp ?_|refine zq ?_|(with_reducible first|refine bc (fun h => ?_) (fun h => ?_)|refine zt ?_|refine zf ?_|refine br_i (fun h => ?_) (fun h => ?_))|refine zg ?_|refine zi ?_|refine zb ?_)
       all_goals conv=>whnf
       all_goals first|rfl|rw [eb]
     ·rw [if_neg (fun h=>h2 h.2.2.2.1)]
      refine fn_ok (by kernel_rfl) ty_ok Tryz.func61 rfl (fun _ _=>Tryz.call61 _ _) rfl ?_
      intro hw
      clear hw
      repeat' ((conv=>whnf);first|(with_reducible first|refine br_t ?_|refine br_f ?_|refine za ?_|refine zg ?_)|refine zsl ?_|refine zsg ?_|refine zss ?_|refine zs1 ?_|refine zse ?_|refine zsn ?_|refine zsc ?_|(with_reducible first|refine zpa ?_|refine zqa ?_)|refine zp ?_|refine zq ?_|(with_reducible first|refine bc (fun h => ?_) (fun h => ?_)|refine zt ?_|refine zf ?_|refine br_i (fun h => ?_) (fun h => ?_))|refine zg ?_|refine zi ?_|refine zb ?_)
      all_goals conv=>whnf
      all_goals rfl
    ·rw [if_neg (fun h=>h1 h.2.2.2.2)]
     refine fn_ok (by kernel_rfl) ty_ok Tryz.func61 rfl (fun _ _=>Tryz.call61 _ _) rfl ?_
     intro hw
     clear hw
     repeat' ((conv=>whnf);first|(with_reducible first|refine br_t ?_|refine br_f ?_|refine za ?_|refine zg ?_)|refine zsl ?_|refine zsg ?_|refine zss ?_|refine zs1 ?_|refine zse ?_|refine zsn ?_|refine zsc ?_|(with_reducible first|refine zpa ?_|refine zqa ?_)|refine zp ?_|refine zq ?_|(with_reducible first|refine bc (fun h => ?_) (fun h => ?_)|refine zt ?_|refine zf ?_|refine br_i (fun h => ?_) (fun h => ?_))|refine zg ?_|refine zi ?_|refine zb ?_)
     all_goals conv=>whnf
     all_goals rfl
  ·rw [if_neg (fun k=>h k.2.1)]
   refine fn_ok (by kernel_rfl) ty_ok Tryz.func61 rfl (fun _ _=>Tryz.call61 _ _) rfl ?_
   intro hw
   clear hw
   repeat' ((conv=>whnf);first|(with_reducible first|refine br_t ?_|refine br_f ?_|refine za ?_|refine zg ?_)|refine zsl ?_|refine zsg ?_|refine zss ?_|refine zs1 ?_|refine zse ?_|refine zsn ?_|refine zsc ?_|(with_reducible first|refine zpa ?_|refine zqa ?_)|refine zp ?_|refine zq ?_|(with_reducible first|refine bc (fun h => ?_) (fun h => ?_)|refine zt ?_|refine zf ?_|refine br_i (fun h => ?_) (fun h => ?_))|refine zg ?_|refine zi ?_|refine zb ?_)
   all_goals conv=>whnf
   all_goals rfl
theorem rtplaced_fn (n d:Int) (w:List Str) (hw:∀ x∈w,x.length≤100000):FnOK Tryz.prog 61 [.one (strs w),rat n d] (retPc (rcZ n d w)):=by
 by_cases h:w.length=4
 ·match w,h with
  | [a,b,c,e],_=>exact rtplaced_four n d a b c e (hw b (by simp)) (hw c (by simp)) (hw e (by simp))
 ·have e:rcZ n d w=(⟨0,0,0⟩,false):=by unfold rcZ;rw [if_neg (fun k=>h k.1)]
  rw [e]
  exact rtplaced_no n d w h
structure PsO (L0:List Pt) (i:Nat) (L:List Pt):Prop where
 p:L.Perm L0
 o:∀ a b (h:a<b) (hb:b<L.length),b<i→¬ L[b].id<L[a].id
structure PsI (L0:List Pt) (i k:Nat) (L:List Pt):Prop where
 p:L.Perm L0
 hk:k≤i
 hi:i<L.length
 o:∀ a b (h:a<b) (hb:b<L.length),b≤i→b≠k→¬ L[b].id<L[a].id
def pswp (L:List Pt) (k:Nat) (h:k<L.length):List Pt:=(L.set k L[k-1]).set (k-1) L[k]
theorem pswp_len {L:List Pt} {k:Nat} (h:k<L.length):(pswp L k h).length=L.length:=by simp [pswp]
theorem pswp_get {L:List Pt} {k:Nat} (h:k<L.length) (h0:0<k) {b:Nat} (hb:b<(pswp L k h).length) :
  (pswp L k h)[b]=if b=k-1 then L[k] else if b=k then L[k-1] else L[b]'(by rw [pswp_len] at hb;exact hb):=by
 simp only [pswp,List.getElem_set,eq_comm (b:=b)]
theorem pswap_at {x y:Pt} {l r:List Pt}:(l++y::x::r).Perm (l++x::y::r):=List.Perm.append_left l (List.Perm.swap ..)
theorem pswp_perm {L:List Pt} {k:Nat} (h:k<L.length) (h0:0<k):(pswp L k h).Perm L:=by
 obtain ⟨j,rfl⟩:∃ j,k=j+1:=⟨k-1,by omega⟩
 have e1:L=L.take j++L[j]::L[j+1]::L.drop (j+2):=by
  rw [← List.drop_eq_getElem_cons h,← List.drop_eq_getElem_cons (by omega),List.take_append_drop]
 have e2:pswp L (j+1) h=L.take j++L[j+1]::L[j]::L.drop (j+2):=by
  refine List.ext_getElem (by rw [pswp_len];simp;omega) fun b h1 h2 => ?_
  rw [pswp_get h h0]
  rw [pswp_len] at h1
  simp only [Nat.add_sub_cancel]
  rcases Nat.lt_trichotomy b j with c|c|c
  ·rw [if_neg (by omega),if_neg (by omega),List.getElem_append_left (by simp;omega),List.getElem_take]
  ·subst c
   have hm:min b L.length=b:=Nat.min_eq_left (by omega)
   rw [if_pos rfl,List.getElem_append_right (by rw [List.length_take];omega)]
   simp only [List.length_take,hm,Nat.sub_self,List.getElem_cons_zero]
  ·rw [if_neg (by omega),List.getElem_append_right (by simp;omega)]
   by_cases c1:b=j+1
   ·subst c1
    have key:∀ q,q=1→∀ (hq:q<(L[j+1]::L[j]::List.drop (j+2) L).length),(L[j+1]::L[j]::List.drop (j+2) L)[q]=L[j]:=by rintro _ rfl _;rfl
    rw [if_pos rfl]
    exact (key _ (by rw [List.length_take];omega) _).symm
   ·obtain ⟨d,rfl⟩:∃ d,b=j+(d+2):=⟨b-j-2,by omega⟩
    rw [if_neg c1]
    simp only [List.length_take,Nat.min_eq_left (show j≤L.length by omega),Nat.add_sub_cancel_left,List.getElem_cons_succ,List.getElem_drop]
    exact getElem_congr rfl (by omega) _
 rw [e2]
 conv=>rhs;rw [e1]
 exact pswap_at
theorem PsI.start {L0 L:List Pt} {i:Nat} (H:PsO L0 i L) (h:i<L.length):PsI L0 i i L:=⟨H.p,Nat.le_refl _,h,fun a b h hb h1 h2=>H.o a b h hb (by omega)⟩
theorem PsI.stop0 {L0 L:List Pt} {i:Nat} (H:PsI L0 i 0 L):PsO L0 (i+1) L:=⟨H.p,fun a b h hb h1=>H.o a b h hb (by omega) (by omega)⟩
theorem PsI.stop {L0 L:List Pt} {i k:Nat} (H:PsI L0 i k L) (h0:0<k) (hn:¬ (L[k]'(Nat.lt_of_le_of_lt H.hk H.hi)).id<(L[k-1]'(by have:=H.hk;have:=H.hi;omega)).id):PsO L0 (i+1) L:=by
 refine ⟨H.p,fun a b h hb h1 => ?_⟩
 by_cases hbk:b=k
 ·subst hbk
  by_cases ha:a=b-1
  ·subst ha;exact hn
  ·have:=H.o a (b-1) (by omega) (by omega) (by omega) (by omega);omega
 ·exact H.o a b h hb (by omega) hbk
theorem PsI.next {L0 L:List Pt} {i k:Nat} (H:PsI L0 i k L) (h0:0<k) (hl:(L[k]'(Nat.lt_of_le_of_lt H.hk H.hi)).id<(L[k-1]'(by have:=H.hk;have:=H.hi;omega)).id):PsI L0 i (k-1) (pswp L k (Nat.lt_of_le_of_lt H.hk H.hi)):=by
 have hk:=H.hk
 have hi:=H.hi
 refine ⟨(List.Perm.trans ?_ H.p),by omega,by rw [pswp_len];exact hi,fun a b h hb h1 h2 => ?_⟩
 ·exact pswp_perm _ h0
 ·have hb':=hb
  rw [pswp_len] at hb'
  rw [pswp_get _ h0,pswp_get _ h0]
  rw [if_neg h2]
  by_cases c1:b=k
  ·rw [if_pos c1]
   by_cases c2:a=k-1
   ·rw [if_pos c2];omega
   ·rw [if_neg c2,if_neg (by omega)]
    exact H.o a (k-1) (by omega) (by omega) (by omega) (by omega)
  ·rw [if_neg c1]
   by_cases c2:a=k-1
   ·rw [if_pos c2]
    exact H.o k b (by omega) hb' h1 c1
   ·rw [if_neg c2]
    by_cases c3:a=k
    ·rw [if_pos c3]
     exact H.o (k-1) b (by omega) hb' h1 c1
    ·rw [if_neg c3]
     exact H.o a b h hb' h1 c1
def psIn (L:List Pt):Nat→List Pt
 | 0=>L
 | k+1=>if h:k+1<L.length then (if L[k+1].id<L[k].id then psIn (pswp L (k+1) h) k else L) else L
def psOut:Nat→Nat→List Pt→List Pt
 | 0,_,L=>L
 | f+1,i,L=>psOut f (i+1) (psIn L i)
def psR (l:List Pt):List Pt:=psOut (l.length-1) 1 l
theorem psIn_ok {L0:List Pt} {i:Nat}:∀ {k:Nat} {L:List Pt},PsI L0 i k L→PsO L0 (i+1) (psIn L k)
 | 0,L,H=>H.stop0
 | k+1,L,H=>by
  have hl:k+1<L.length:=Nat.lt_of_le_of_lt H.hk H.hi
  unfold psIn
  rw [dif_pos hl]
  split
  ·rename_i hlt
   exact psIn_ok (H.next (Nat.succ_pos k) hlt)
  ·rename_i hn
   exact H.stop (Nat.succ_pos k) hn
theorem psOut_ok {L0:List Pt}:∀ {f i:Nat} {L:List Pt},PsO L0 i L→f+i=L.length→PsO L0 L.length (psOut f i L)
 | 0,i,L,H,h=>by
  have:i=L.length:=by omega
  subst this;exact H
 | f+1,i,L,H,h=>by
  have h1:=psIn_ok (PsI.start H (by omega))
  have hl:(psIn L i).length=L.length:=h1.p.length_eq.trans H.p.length_eq.symm
  have:=psOut_ok (f:=f) h1 (by omega)
  rw [hl] at this
  exact this
theorem psR_ok (l:List Pt):(psR l).Perm l∧(psR l).Pairwise fun a b=>a.id≤b.id:=by
 by_cases h:l.length=0
 ·have:l=[]:=List.length_eq_zero_iff.1 h
  subst this
  exact ⟨.refl _,List.Pairwise.nil⟩
 ·have H:=psOut_ok (L0:=l) (f:=l.length-1) (i:=1) (L:=l) ⟨.refl _,fun a b h hb h1=>by omega⟩ (by omega)
  refine ⟨H.p,List.pairwise_iff_getElem.2 fun i j hi hj hij => ?_⟩
  have hl:(psR l).length=l.length:=H.p.length_eq
  have:=H.o i j hij hj (by omega)
  show (psOut _ _ _)[i].id≤(psOut _ _ _)[j].id
  omega
set_option maxHeartbeats 2000000 in
theorem rtsorted_fn (L0:List Pt) (hsz:L0.length≤1000000):FnOK Tryz.prog 63 [.one (pts L0)] (.c (.one (pts (psR L0)))):=by
 have hol:(L0.map Pt.c).length=L0.length:=List.length_map ..
 refine fn_ok (by kernel_rfl) (ty_okK [6,8] [] [] []) Tryz.func63 rfl (fun _ _=>Tryz.call63 _ _) rfl ?_
 intro hw
 clear hw
 repeat' ((conv=>whnf);first|(with_reducible first|refine br_t ?_|refine br_f ?_|refine za ?_|refine zg ?_|refine zo ?_)|rw [List.length_map]|refine zp ?_|refine zq ?_|(with_reducible first|refine bc (fun h => ?_) (fun h => ?_)|refine zt ?_|refine zf ?_|refine br_i (fun h => ?_) (fun h => ?_))|refine zg ?_|refine zi ?_|refine zb ?_|refine zl ?_)
 refine loop_keep [3,4] ?_
 conv=>whnf
 refine loop_J (by kernel_rfl) (ty_okK [6,8] [] [] []) (σ:=Nat × List Pt) (fun s=>[(4,sV (.int .i64 s.1)),(3,.c (.at (.osl 6 0)))]) (fun s=>[(6,.row 3 (s.2.map Pt.c) 0)]) (fun s=>1≤s.1∧s.1≤L0.length+1∧PsO L0 s.1 s.2∧psOut (L0.length-s.1) s.1 s.2=psR L0) (fun s=>L0.length+1-s.1) (1,L0) ⟨Nat.le_refl _,Nat.le_add_left ..,⟨.refl _,fun a b h hb h1=>by omega⟩,rfl⟩ ?_ ?_
 ·(conv=>whnf);exact zent
 rintro ⟨i,L⟩ ⟨hi1,hi2,HI,HR⟩
 dsimp only at hi1 hi2 HI HR
 have hLl:L.length=L0.length:=HI.p.length_eq
 have hLl2:((i,L):Nat × List Pt).snd.length=L0.length:=hLl
 have hLl3:(L.map Pt.c).length=L0.length:=(List.length_map ..).trans hLl
 rcases Nat.lt_or_ge i L.length with hlt|hge
 ·obtain ⟨f,hf⟩:∃ f,L0.length-i=f+1:=⟨L0.length-i-1,by omega⟩
  rw [hf] at HR
  unfold psOut at HR
  have hf2:f=L0.length-(i+1):=by omega
  subst hf2
  repeat' ((conv=>whnf);first|(with_reducible first|refine br_t ?_|refine br_f ?_|refine za ?_|refine zg ?_|refine zo ?_)|rw [List.length_map]|refine zp ?_|refine zq ?_|(with_reducible first|refine bc (fun h => ?_) (fun h => ?_)|refine zt ?_|refine zf ?_|refine br_i (fun h => ?_) (fun h => ?_))|refine zg ?_|refine zi ?_|refine zb ?_|refine zl ?_)
  refine loop_keep [3,4,5] ?_
  conv=>whnf
  refine loop_J (by kernel_rfl) (ty_okK [6,8] [] [] []) (σ:=Nat × List Pt) (fun s=>[(5,sV (.int .i64 s.1)),(3,.c (.at (.osl 6 0)))]) (fun s=>[(6,.row 3 (s.2.map Pt.c) 0)]) (fun s=>PsI L0 i s.1 s.2∧psOut (L0.length-(i+1)) (i+1) (psIn s.2 s.1)=psR L0) (fun s=>s.1) (i,L) ⟨PsI.start HI hlt,HR⟩ ?_ ?_
  ·(conv=>whnf);exact zent
  rintro ⟨k,M⟩ ⟨HK,HS⟩
  dsimp only at HK HS
  have hMl:M.length=L0.length:=HK.p.length_eq
  have hMl2:((k,M):Nat × List Pt).snd.length=L0.length:=hMl
  have hMl3:(M.map Pt.c).length=L0.length:=(List.length_map ..).trans hMl
  have hki:=HK.hk
  rcases Nat.eq_zero_or_pos k with rfl|h0
  ·repeat' ((conv=>whnf);first|(with_reducible first|refine br_t ?_|refine br_f ?_|refine za ?_|refine zg ?_|refine zo ?_)|rw [List.length_map]|refine zp ?_|refine zq ?_|(with_reducible first|refine bc (fun h => ?_) (fun h => ?_)|refine zt ?_|refine zf ?_|refine br_i (fun h => ?_) (fun h => ?_))|refine zg ?_|refine zi ?_|refine zb ?_|refine zl ?_)
   all_goals conv=>whnf
   refine ⟨(i+1,M),⟨by omega,by omega,HK.stop0,HS⟩,?_,by simp only;omega⟩
   (conv=>whnf);exact zent
  ·have hkM:k<M.length:=by omega
   obtain ⟨j,rfl⟩:∃ j,k=j+1:=⟨k-1,by omega⟩
   unfold psIn at HS
   rw [dif_pos hkM] at HS
   have hel1:=pts_get hkM
   have ew:IntKind.i64.wrap (((j+1:Nat):Int)-1)=((j:Nat):Int):=by rw [IntWalk.i64_in _ (by omega)];omega
   have hel2:(M.map Pt.c)[(IntKind.i64.wrap (((j+1:Nat):Int)-1)).toNat]? = some [i64 M[j].id,i64 M[j].a,i64 M[j].b]:=by
    rw [ew];exact (pts_get (l:=M) (i:=j) (by omega))
   by_cases hm:M[j+1].id<M[j].id
   ·have HN:=HK.next h0 hm
    rw [if_pos hm] at HS
    have hset:((M.map Pt.c).set (((j+1:Nat)):Int).toNat [i64 M[j].id,i64 M[j].a,i64 M[j].b]).set (IntKind.i64.wrap (((j+1:Nat):Int)-1)).toNat [i64 M[j+1].id,i64 M[j+1].a,i64 M[j+1].b]=(pswp M (j+1) hkM).map Pt.c:=by
     rw [ew,Int.toNat_natCast,Int.toNat_natCast]
     unfold pswp
     rw [List.map_set,List.map_set]
     rfl
    generalize M[j+1]=mk,M[j]=mj at *
    have hel3:((M.map Pt.c).set (((j+1:Nat)):Int).toNat [i64 mj.id,i64 mj.a,i64 mj.b])[(IntKind.i64.wrap (((j+1:Nat):Int)-1)).toNat]? = some [i64 mj.id,i64 mj.a,i64 mj.b]:=by
     rw [List.getElem?_set_ne (by rw [ew];omega)];exact hel2
    repeat' ((conv=>whnf);first|(with_reducible first|refine br_t ?_|refine br_f ?_|refine za ?_|refine zg ?_|refine zo ?_)|refine And.intro (by rw [ew];omega) ?_|refine ⟨_,⟨hel3,by decide⟩,?_⟩|simp only [List.length_map,List.length_set]|refine zp ?_|refine zq ?_|(with_reducible first|refine bc (fun h => ?_) (fun h => ?_)|refine zt ?_|refine zf ?_|refine br_i (fun h => ?_) (fun h => ?_))|refine zg ?_|refine zi ?_|refine zb ?_|refine zl ?_)
    all_goals conv=>whnf
    refine ⟨(j,pswp M (j+1) hkM),⟨HN,HS⟩,?_,by simp only;omega⟩
    (conv=>whnf);refine ⟨by repeat' (first|with_reducible exact zE0|with_reducible refine zE1 ?_ ?_|rfl|assumption|((exact congrArg (fun x=>some (Blk.row 3 x 0)) hset))|exact zi1|exact zb1),by repeat' (first|with_reducible exact zH0|with_reducible refine zH1 ?_ ?_|rfl|assumption|((exact congrArg (fun x=>some (Blk.row 3 x 0)) hset))),rfl⟩
   ·have HN:=HK.stop h0 hm
    rw [if_neg hm] at HS
    generalize M[j+1]=mk,M[j]=mj at *
    repeat' ((conv=>whnf);first|(with_reducible first|refine br_t ?_|refine br_f ?_|refine za ?_|refine zg ?_|refine zo ?_)|refine And.intro (by rw [ew];omega) ?_|rw [List.length_map]|refine zp ?_|refine zq ?_|(with_reducible first|refine bc (fun h => ?_) (fun h => ?_)|refine zt ?_|refine zf ?_|refine br_i (fun h => ?_) (fun h => ?_))|refine zg ?_|refine zi ?_|refine zb ?_|refine zl ?_)
    all_goals conv=>whnf
    refine ⟨(i+1,M),⟨by omega,by omega,HN,HS⟩,?_,by simp only;omega⟩
    (conv=>whnf);exact zent
 ·have e0:L0.length-i=0:=by omega
  rw [e0] at HR
  unfold psOut at HR
  subst HR
  repeat' ((conv=>whnf);first|(with_reducible first|refine br_t ?_|refine br_f ?_|refine za ?_|refine zg ?_|refine zo ?_)|rw [List.length_map]|refine zp ?_|refine zq ?_|(with_reducible first|refine bc (fun h => ?_) (fun h => ?_)|refine zt ?_|refine zf ?_|refine br_i (fun h => ?_) (fun h => ?_))|refine zg ?_|refine zi ?_|refine zb ?_|refine zl ?_)
  all_goals conv=>whnf
  all_goals rfl
end Go.Proofs.YtfkfficabeclcaaGreatDoor
