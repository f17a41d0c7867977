import Derived.Test.YtddbmpbihpkabaaGreatGLGPartsAR
import Derived.Shelf.SlSortCmp.WholeK
import Derived.Shelf.SlSortCmp.NoneTotal
import Derived.Ground.SlsfProg
import Derived.Test.YtddbmpbihpkabaaGreatProg
import Derived.Test.YtddbmpbihpkabaaGreatGLGPartsAQ
set_option linter.all false
namespace Go.Proofs.YtddbmpbihpkabaaGreat
open Go.RowKit Go.Sort Sx
set_option maxRecDepth 2000
theorem Pt.eq_iff {p q:Pt}:p=q↔p.id=q.id∧p.a=q.a∧p.b=q.b:=by
 cases p;cases q;simp
theorem take_all_eq {α:Type} {a b:List α} {i:Nat} (h:a.take i=b.take i) (hl:a.length=b.length) (hi:a.length≤i):a=b:=by
 rw [List.take_of_length_le hi,List.take_of_length_le (by omega)] at h;exact h
theorem take_succ_eq {α:Type} {a b:List α} {i:Nat} (h:a.take i=b.take i) (h1:i<a.length) (h2:i<b.length) (e:a[i]=b[i]):a.take (i+1)=b.take (i+1):=by
 rw [List.take_succ_eq_append_getElem h1,List.take_succ_eq_append_getElem h2,h,e]
theorem ne_of_get {α:Type} {a b:List α} {i:Nat} (h1:i<a.length) (h2:i<b.length) (e:a[i]≠b[i]):a≠b:=by
 rintro rfl;exact e rfl
structure Md where
 n:Int
 d:Int
 l:List Pt
 deriving DecidableEq,Inhabited
def Md.c (m:Md):List D:=[i64 m.n,i64 m.d,pts m.l]
abbrev Md.dc (m:Md):DC:=.agg [i64 m.n,i64 m.d,pts m.l]
def mchk (m:Md):Int:=if askd m.n m.d=0∧fchk m.l=0 then 0 else 8
theorem mchk_08 (m:Md):mchk m=0∨mchk m=8:=by unfold mchk;split<;>simp
theorem mchk_ok {m:Md} (h:mchk m=0):askd m.n m.d=0∧fchk m.l=0:=by
 unfold mchk at h
 split at h
 ·assumption
 ·omega
theorem mchk_orN (m:Md):mchk m=if orN (askd m.n m.d) (fchk m.l)=0 then 0 else 8:=by
 unfold mchk orN
 by_cases h:askd m.n m.d=0<;>simp [h]
theorem rfSame_fn (a b:List Pt):FnOK Tryz.prog 27 [fld a,fld b] (.c (.one (bol (decide (a=b))))):=by
 refine fn_ok (by kernel_rfl) ty_ok Tryz.func27 rfl (fun _ _=>Tryz.call27 _ _) rfl ?_
 intro hw
 simp only [WDCs,WDC,WDs] at hw
 obtain ⟨w1,_⟩:=wd_pts hw.1.1
 obtain ⟨w2,_⟩:=wd_pts hw.2.1.1
 clear hw
 by_cases h0:a.length=b.length
 ·repeat' ((conv=>whnf);first|(with_reducible first|refine br_t ?_|refine br_f ?_|refine za ?_|refine zg ?_)|rw [List.length_map]|refine zp ?_|refine zq ?_|(with_reducible first|refine bc (fun h => ?_) (fun h => ?_)|refine zt ?_|refine zf ?_|refine br_i (fun h => ?_) (fun h => ?_)|refine xi (pv_bool fun _=>nev49 _ _ _ _ _ _ _ _ _) ?_)|refine zg ?_|refine zi ?_|refine zb ?_)
  refine loop_J (by kernel_rfl) ty_ok (σ:=Nat) (fun i=>[(5,sV (.int .i64 i))]) (fun _=>[]) (fun i=>i≤a.length∧a.take i=b.take i) (fun i=>a.length-i) 0 ⟨by omega,rfl⟩ ?_ ?_
  ·(conv=>whnf);exact zent
  rintro i ⟨hi,hI⟩
  rcases Nat.lt_or_ge i a.length with hlt|hge
  ·have hb:i<b.length:=by omega
   have he1:=pts_get hlt
   have he2:=pts_get hb
   by_cases hc:a[i]=b[i]
   ·have hq:=Pt.eq_iff.1 hc
    repeat' ((conv=>whnf);first|(with_reducible first|refine br_t ?_|refine br_f ?_|refine za ?_|refine zg ?_)|rw [List.length_map]|refine zp ?_|refine zq ?_|(with_reducible first|refine bc (fun h => ?_) (fun h => ?_)|refine zt ?_|refine zf ?_|refine br_i (fun h => ?_) (fun h => ?_)|refine xi (pv_bool fun _=>nev49 _ _ _ _ _ _ _ _ _) ?_)|refine zg ?_|refine zi ?_|refine zb ?_)
    all_goals conv=>whnf
    refine ⟨i+1,⟨by omega,take_succ_eq hI hlt hb hc⟩,?_,by omega⟩
    (conv=>whnf);exact zent
   ·have hq:=mt Pt.eq_iff.2 hc
    rw [decide_eq_false (ne_of_get hlt hb hc)]
    repeat' ((conv=>whnf);first|(with_reducible first|refine br_t ?_|refine br_f ?_|refine za ?_|refine zg ?_)|rw [List.length_map]|refine zp ?_|refine zq ?_|(with_reducible first|refine bc (fun h => ?_) (fun h => ?_)|refine zt ?_|refine zf ?_|refine br_i (fun h => ?_) (fun h => ?_)|refine xi (pv_bool fun _=>nev49 _ _ _ _ _ _ _ _ _) ?_)|refine zg ?_|refine zi ?_|refine zb ?_)
    all_goals conv=>whnf
    all_goals rfl
  ·rw [decide_eq_true (take_all_eq hI h0 hge)]
   repeat' ((conv=>whnf);first|(with_reducible first|refine br_t ?_|refine br_f ?_|refine za ?_|refine zg ?_)|rw [List.length_map]|refine zp ?_|refine zq ?_|(with_reducible first|refine bc (fun h => ?_) (fun h => ?_)|refine zt ?_|refine zf ?_|refine br_i (fun h => ?_) (fun h => ?_)|refine xi (pv_bool fun _=>nev49 _ _ _ _ _ _ _ _ _) ?_)|refine zg ?_|refine zi ?_|refine zb ?_)
   all_goals conv=>whnf
   all_goals rfl
 ·rw [decide_eq_false (fun h=>h0 (congrArg List.length h))]
  repeat' ((conv=>whnf);first|(with_reducible first|refine br_t ?_|refine br_f ?_|refine za ?_|refine zg ?_)|rw [List.length_map]|refine zp ?_|refine zq ?_|(with_reducible first|refine bc (fun h => ?_) (fun h => ?_)|refine zt ?_|refine zf ?_|refine br_i (fun h => ?_) (fun h => ?_)|refine xi (pv_bool fun _=>nev49 _ _ _ _ _ _ _ _ _) ?_)|refine zg ?_|refine zi ?_|refine zb ?_)
  all_goals conv=>whnf
  all_goals rfl
theorem ofirst_fn (a b:Int):FnOK Tryz.prog 45 [.one (.list 1 [[i64 a],[i64 b]])] (ret1 (orN a b)):=by
 refine fn_ok (by kernel_rfl) ty_ok Tryz.func45 rfl (fun _ _=>Tryz.call45 _ _) rfl ?_
 intro hw
 repeat' ((conv=>whnf);first|(with_reducible first|refine br_t ?_|refine br_f ?_|refine za ?_|refine zg ?_)|refine zp ?_|refine zq ?_|(with_reducible first|refine bc (fun h => ?_) (fun h => ?_)|refine zt ?_|refine zf ?_|refine br_i (fun h => ?_) (fun h => ?_))|refine zg ?_|refine zi ?_|refine zb ?_)
 refine loop_J (by kernel_rfl) ty_ok (σ:=Nat) (fun i=>[(7,sV (.int .i64 i))]) (fun _=>[]) (fun i=>i=0∨(i=1∧a=0)∨(i=2∧a=0∧b=0)) (fun i=>2-i) 0 (.inl rfl) ?_ ?_
 ·(conv=>whnf);exact zent
 intro i hi
 have hlen:([[i64 a],[i64 b]]:List (List D)).length=2:=rfl
 have hel0:([[i64 a],[i64 b]]:List (List D))[((0:Nat):Int).toNat]? = some [i64 a]:=rfl
 have hel1:([[i64 a],[i64 b]]:List (List D))[((1:Nat):Int).toNat]? = some [i64 b]:=rfl
 have q0:0≤((0:Nat):Int)∧((0:Nat):Int)<(([[i64 a],[i64 b]]:List (List D)).length:Int):=⟨by omega,by simp⟩
 have q1:0≤((1:Nat):Int)∧((1:Nat):Int)<(([[i64 a],[i64 b]]:List (List D)).length:Int):=⟨by omega,by simp⟩
 rcases hi with rfl|⟨rfl,h1⟩|⟨rfl,h1,h2⟩
 ·repeat' ((conv=>whnf);first|(with_reducible first|refine br_t ?_|refine br_f ?_|refine za ?_|refine zg ?_)|first|(refine (Exists.intro _ (And.intro (And.intro hel0 (Nat.le_of_ble_eq_true rfl)) ?_)))|(refine And.intro q0 ?_)|refine zp ?_|refine zq ?_|(with_reducible first|refine bc (fun h => ?_) (fun h => ?_)|refine zt ?_|refine zf ?_|refine br_i (fun h => ?_) (fun h => ?_))|refine zg ?_|refine zi ?_|refine zb ?_)
  all_goals conv=>whnf
  ·refine r_int ?_
   unfold orN;rw [if_neg (by assumption)]
  ·refine ⟨1,.inr (.inl ⟨rfl,by omega⟩),?_,by show 2-1<2-0;decide⟩
   (conv=>whnf);exact zent
 ·repeat' ((conv=>whnf);first|(with_reducible first|refine br_t ?_|refine br_f ?_|refine za ?_|refine zg ?_)|first|(refine (Exists.intro _ (And.intro (And.intro hel1 (Nat.le_of_ble_eq_true rfl)) ?_)))|(refine And.intro q1 ?_)|refine zp ?_|refine zq ?_|(with_reducible first|refine bc (fun h => ?_) (fun h => ?_)|refine zt ?_|refine zf ?_|refine br_i (fun h => ?_) (fun h => ?_))|refine zg ?_|refine zi ?_|refine zb ?_)
  all_goals conv=>whnf
  ·refine r_int ?_
   unfold orN;rw [if_pos h1]
  ·refine ⟨2,.inr (.inr ⟨rfl,h1,by omega⟩),?_,by show 2-2<2-1;decide⟩
   (conv=>whnf);exact zent
 ·repeat' ((conv=>whnf);first|(with_reducible first|refine br_t ?_|refine br_f ?_|refine za ?_|refine zg ?_)|refine zp ?_|refine zq ?_|(with_reducible first|refine bc (fun h => ?_) (fun h => ?_)|refine zt ?_|refine zf ?_|refine br_i (fun h => ?_) (fun h => ?_))|refine zg ?_|refine zi ?_|refine zb ?_)
  all_goals conv=>whnf
  refine r_int ?_
  unfold orN;rw [if_pos h1];exact h2.symm
theorem oCheck_fn (m:Md):FnOK Tryz.prog 33 [m.dc] (ret1 (mchk m)):=by
 refine fn_ok (by kernel_rfl) ty_ok Tryz.func33 rfl (fun _ _=>Tryz.call33 _ _) rfl ?_
 intro hw
 clear hw
 rw [mchk_orN]
 have H:=ofirst_fn (askd m.n m.d) (fchk m.l)
 generalize orN (askd m.n m.d) (fchk m.l)=z at *
 by_cases h:z=0
 all_goals
  repeat' ((conv=>whnf);first|(with_reducible first|refine br_t ?_|refine br_f ?_|refine za ?_|refine zg ?_|refine xi (asked_fn _ _) ?_|refine xi (fCheck_fn _) ?_)|refine zp ?_|refine zq ?_|(with_reducible first|refine bc (fun h => ?_) (fun h => ?_)|refine zt ?_|refine zf ?_|refine br_i (fun h => ?_) (fun h => ?_))|refine zg ?_|refine zi ?_|refine zb ?_)
  all_goals conv=>whnf
  all_goals simp [h]
theorem roCheck_fn (m:Md):FnOK Tryz.prog 39 [m.dc] (ret1 (mchk m)):=by
 refine fn_ok (by kernel_rfl) ty_ok Tryz.func39 rfl (fun _ _=>Tryz.call39 _ _) rfl ?_
 intro hw
 clear hw
 unfold mchk
 have H1:=rasked_fn m.n m.d
 have H2:=rfCheck_fn m.l
 generalize askd m.n m.d=z at *
 generalize fchk m.l=y at *
 by_cases h:z=0<;>by_cases h':y=0
 all_goals
  repeat' ((conv=>whnf);first|(with_reducible first|refine br_t ?_|refine br_f ?_|refine za ?_|refine zg ?_)|refine zp ?_|refine zq ?_|(with_reducible first|refine bc (fun h => ?_) (fun h => ?_)|refine zt ?_|refine zf ?_|refine br_i (fun h => ?_) (fun h => ?_))|refine zg ?_|refine zi ?_|refine zb ?_)
  all_goals conv=>whnf
  all_goals simp [h,h']
theorem rfTwin_fn (l:List Pt) (hl:l.length≤1000000):FnOK Tryz.prog 31 [fld l] (.c (fld l)):=by
 refine fn_ok (by kernel_rfl) (ty_okK [6] [] [] []) Tryz.func31 rfl (fun _ _=>Tryz.call31 _ _) rfl ?_
 intro hw
 repeat' ((conv=>whnf);first|(with_reducible first|refine br_t ?_|refine br_f ?_|refine za ?_|refine zg ?_|refine zo ?_)|rw [List.length_map]|refine zp ?_|refine zq ?_|(with_reducible first|refine bc (fun h => ?_) (fun h => ?_)|refine zt ?_|refine zf ?_|refine br_i (fun h => ?_) (fun h => ?_))|refine zg ?_|refine zi ?_|refine zb ?_|refine zl ?_)
 all_goals conv=>whnf
 all_goals rfl
theorem roTwin_fn (m:Md) (hl:m.l.length≤1000000):FnOK Tryz.prog 15 [m.dc] (.c m.dc):=by
 refine fn_ok (by kernel_rfl) ty_ok Tryz.func15 rfl (fun _ _=>Tryz.call15 _ _) rfl ?_
 intro hw
 have H:=rfTwin_fn m.l hl
 exact zw
theorem roSameModel_fn (m n:Md):FnOK Tryz.prog 12 [m.dc,n.dc] (.c (.one (bol (decide (m=n))))):=by
 refine fn_ok (by kernel_rfl) ty_ok Tryz.func12 rfl (fun _ _=>Tryz.call12 _ _) rfl ?_
 intro hw
 clear hw
 have H:=rfSame_fn m.l n.l
 have he:(m=n)↔(m.n=n.n∧m.d=n.d)∧m.l=n.l:=by cases m;cases n;simp [and_assoc]
 rw [show decide (m=n)=decide ((m.n=n.n∧m.d=n.d)∧m.l=n.l) from decide_eq_decide.2 he]
 by_cases h:m.n=n.n∧m.d=n.d
 all_goals
  cases hz:decide (m.l=n.l)
  all_goals
   rw [hz] at H
   repeat' ((conv=>whnf);first|(with_reducible first|refine br_t ?_|refine br_f ?_|refine za ?_|refine zg ?_)|refine zp ?_|refine zq ?_|(with_reducible first|refine bc (fun h => ?_) (fun h => ?_)|refine zt ?_|refine zf ?_|refine br_i (fun h => ?_) (fun h => ?_)|refine xi (pv_bool fun _=>eqv23 _ _ _ _ _ _ _) ?_)|refine zg ?_|refine zi ?_|refine zb ?_)
   all_goals conv=>whnf
   all_goals simp at hz
   all_goals simp [h,hz]
end Go.Proofs.YtddbmpbihpkabaaGreat

namespace Go.Proofs.YtddbmpbihpkabaaGreat
open Go Go.RowKit Sx
namespace Sx
def shModel:Sh:=.st (.fc 2 shRatio (.fc 1 shField .f0))
end Sx
theorem fits_model {ds:List D} (h:Fits shModel ds):∃ m:Md,ds=m.c:=by
 obtain ⟨_,_,rfl,h1,_,_,rfl,h2,rfl⟩:=h
 obtain ⟨n,d,rfl⟩:=fits_ratio h1
 obtain ⟨l,rfl⟩:=fits_field h2
 exact ⟨⟨n,d,l⟩,rfl⟩
end Go.Proofs.YtddbmpbihpkabaaGreat

namespace Go.Proofs
open Go.Shelf
def Tryz.sortPt_ren:Go.Shelf.Ren:=⟨fun|6=>120|15=>146|14=>148|28=>171|29=>150|20=>172|21=>173|22=>174|23=>175|24=>176|25=>177|26=>178|27=>179|46=>186|47=>182|48=>183|49=>187|50=>188|57=>190|n=>n,fun|22=>24|24=>49|25=>182|3=>3|39=>185|0=>0|53=>226|55=>124|4=>4|46=>220|45=>219|50=>127|5=>5|9=>9|66=>233|70=>237|76=>241|77=>242|n=>n,fun|n=>n⟩
theorem Tryz.sortPt:Go.Proofs.SlLaysF0.n6 Tryz.prog Tryz.sortPt_ren:={
 mixed:=by kernel_rfl
 f6:=⟨Tryz.f120.name,by decide,Tryz.func120.trans (congrArg some (by kernel_rfl))⟩
 f14:=⟨Tryz.f148.name,by decide,Tryz.func148.trans (congrArg some (by kernel_rfl))⟩
 f15:=Tryz.func146.trans (congrArg some (by kernel_rfl))
 f20:=⟨Tryz.f172.name,by decide,Tryz.func172.trans (congrArg some (by kernel_rfl))⟩
 f21:=⟨Tryz.f173.name,by decide,Tryz.func173.trans (congrArg some (by kernel_rfl))⟩
 f22:=⟨Tryz.f174.name,by decide,Tryz.func174.trans (congrArg some (by kernel_rfl))⟩
 f23:=⟨Tryz.f175.name,by decide,Tryz.func175.trans (congrArg some (by kernel_rfl))⟩
 f24:=⟨Tryz.f176.name,by decide,Tryz.func176.trans (congrArg some (by kernel_rfl))⟩
 f25:=⟨Tryz.f177.name,by decide,Tryz.func177.trans (congrArg some (by kernel_rfl))⟩
 f26:=⟨Tryz.f178.name,by decide,Tryz.func178.trans (congrArg some (by kernel_rfl))⟩
 f27:=⟨Tryz.f179.name,by decide,Tryz.func179.trans (congrArg some (by kernel_rfl))⟩
 f28:=Tryz.func171.trans (congrArg some (by kernel_rfl))
 f29:=Tryz.func150.trans (congrArg some (by kernel_rfl))
 f46:=⟨Tryz.f186.name,by decide,Tryz.func186.trans (congrArg some (by kernel_rfl))⟩
 f47:=Tryz.func182.trans (congrArg some (by kernel_rfl))
 f48:=Tryz.func183.trans (congrArg some (by kernel_rfl))
 f49:=⟨Tryz.f187.name,by decide,Tryz.func187.trans (congrArg some (by kernel_rfl))⟩
 f50:=⟨Tryz.f188.name,by decide,Tryz.func188.trans (congrArg some (by kernel_rfl))⟩
 f57:=⟨Tryz.f190.name,by decide,Tryz.func190.trans (congrArg some (by kernel_rfl))⟩
 t0:=Tryz.underlying0
 a0:=Tryz.isAgg0
 z0:=Tryz.sizeOf0
 v0:=Tryz.zeroValue0
 t3:=Tryz.underlying3
 a3:=Tryz.isAgg3
 z3:=Tryz.sizeOf3
 v3:=Tryz.zeroValue3
 t4:=Tryz.underlying4
 a4:=Tryz.isAgg4
 z4:=Tryz.sizeOf4
 v4:=Tryz.zeroValue4
 t5:=Tryz.underlying5
 a5:=Tryz.isAgg5
 z5:=Tryz.sizeOf5
 v5:=Tryz.zeroValue5
 t9:=Tryz.underlying9
 a9:=Tryz.isAgg9
 z9:=Tryz.sizeOf9
 v9:=Tryz.zeroValue9
 t22:=Tryz.underlying24
 a22:=Tryz.isAgg24
 z22:=Tryz.sizeOf24
 v22:=Tryz.zeroValue24
 t25:=Tryz.underlying182
 a25:=Tryz.isAgg182
 z25:=Tryz.sizeOf182
 v25:=Tryz.zeroValue182
 t39:=Tryz.underlying185
 a39:=Tryz.isAgg185
 z39:=Tryz.sizeOf185
 v39:=Tryz.zeroValue185
 t45:=Tryz.underlying219
 a45:=Tryz.isAgg219
 z45:=Tryz.sizeOf219
 v45:=Tryz.zeroValue219
 t46:=Tryz.underlying220
 a46:=Tryz.isAgg220
 z46:=Tryz.sizeOf220
 v46:=Tryz.zeroValue220
 t50:=Tryz.underlying127
 a50:=Tryz.isAgg127
 z50:=Tryz.sizeOf127
 v50:=Tryz.zeroValue127
 t53:=Tryz.underlying226
 a53:=Tryz.isAgg226
 z53:=Tryz.sizeOf226
 v53:=Tryz.zeroValue226
 t55:=Tryz.underlying124
 a55:=Tryz.isAgg124
 z55:=Tryz.sizeOf124
 v55:=Tryz.zeroValue124
 t66:=Tryz.underlying233
 a66:=Tryz.isAgg233
 z66:=Tryz.sizeOf233
 v66:=Tryz.zeroValue233
 t70:=Tryz.underlying237
 a70:=Tryz.isAgg237
 z70:=Tryz.sizeOf237
 v70:=Tryz.zeroValue237
 t76:=Tryz.underlying241
 a76:=Tryz.isAgg241
 z76:=Tryz.sizeOf241
 v76:=Tryz.zeroValue241
 t77:=Tryz.underlying242
 a77:=Tryz.isAgg242
 z77:=Tryz.sizeOf242
 v77:=Tryz.zeroValue242 }
def Tryz.sortMt_ren:Go.Shelf.Ren:=⟨fun|6=>116|15=>146|14=>145|28=>171|29=>150|20=>163|21=>164|22=>165|23=>166|24=>167|25=>168|26=>169|27=>170|46=>181|47=>182|48=>183|49=>184|50=>185|57=>189|n=>n,fun|22=>52|24=>56|25=>176|3=>3|39=>185|0=>0|53=>226|55=>124|4=>4|46=>220|45=>219|50=>127|5=>5|9=>9|66=>233|70=>237|76=>241|77=>242|n=>n,fun|n=>n⟩
theorem Tryz.sortMt:Go.Proofs.SlLaysF0.n6 Tryz.prog Tryz.sortMt_ren:={
 mixed:=by kernel_rfl
 f6:=⟨Tryz.f116.name,by decide,Tryz.func116.trans (congrArg some (by kernel_rfl))⟩
 f14:=⟨Tryz.f145.name,by decide,Tryz.func145.trans (congrArg some (by kernel_rfl))⟩
 f15:=Tryz.func146.trans (congrArg some (by kernel_rfl))
 f20:=⟨Tryz.f163.name,by decide,Tryz.func163.trans (congrArg some (by kernel_rfl))⟩
 f21:=⟨Tryz.f164.name,by decide,Tryz.func164.trans (congrArg some (by kernel_rfl))⟩
 f22:=⟨Tryz.f165.name,by decide,Tryz.func165.trans (congrArg some (by kernel_rfl))⟩
 f23:=⟨Tryz.f166.name,by decide,Tryz.func166.trans (congrArg some (by kernel_rfl))⟩
 f24:=⟨Tryz.f167.name,by decide,Tryz.func167.trans (congrArg some (by kernel_rfl))⟩
 f25:=⟨Tryz.f168.name,by decide,Tryz.func168.trans (congrArg some (by kernel_rfl))⟩
 f26:=⟨Tryz.f169.name,by decide,Tryz.func169.trans (congrArg some (by kernel_rfl))⟩
 f27:=⟨Tryz.f170.name,by decide,Tryz.func170.trans (congrArg some (by kernel_rfl))⟩
 f28:=Tryz.func171.trans (congrArg some (by kernel_rfl))
 f29:=Tryz.func150.trans (congrArg some (by kernel_rfl))
 f46:=⟨Tryz.f181.name,by decide,Tryz.func181.trans (congrArg some (by kernel_rfl))⟩
 f47:=Tryz.func182.trans (congrArg some (by kernel_rfl))
 f48:=Tryz.func183.trans (congrArg some (by kernel_rfl))
 f49:=⟨Tryz.f184.name,by decide,Tryz.func184.trans (congrArg some (by kernel_rfl))⟩
 f50:=⟨Tryz.f185.name,by decide,Tryz.func185.trans (congrArg some (by kernel_rfl))⟩
 f57:=⟨Tryz.f189.name,by decide,Tryz.func189.trans (congrArg some (by kernel_rfl))⟩
 t0:=Tryz.underlying0
 a0:=Tryz.isAgg0
 z0:=Tryz.sizeOf0
 v0:=Tryz.zeroValue0
 t3:=Tryz.underlying3
 a3:=Tryz.isAgg3
 z3:=Tryz.sizeOf3
 v3:=Tryz.zeroValue3
 t4:=Tryz.underlying4
 a4:=Tryz.isAgg4
 z4:=Tryz.sizeOf4
 v4:=Tryz.zeroValue4
 t5:=Tryz.underlying5
 a5:=Tryz.isAgg5
 z5:=Tryz.sizeOf5
 v5:=Tryz.zeroValue5
 t9:=Tryz.underlying9
 a9:=Tryz.isAgg9
 z9:=Tryz.sizeOf9
 v9:=Tryz.zeroValue9
 t22:=Tryz.underlying52
 a22:=Tryz.isAgg52
 z22:=Tryz.sizeOf52
 v22:=Tryz.zeroValue52
 t25:=Tryz.underlying176
 a25:=Tryz.isAgg176
 z25:=Tryz.sizeOf176
 v25:=Tryz.zeroValue176
 t39:=Tryz.underlying185
 a39:=Tryz.isAgg185
 z39:=Tryz.sizeOf185
 v39:=Tryz.zeroValue185
 t45:=Tryz.underlying219
 a45:=Tryz.isAgg219
 z45:=Tryz.sizeOf219
 v45:=Tryz.zeroValue219
 t46:=Tryz.underlying220
 a46:=Tryz.isAgg220
 z46:=Tryz.sizeOf220
 v46:=Tryz.zeroValue220
 t50:=Tryz.underlying127
 a50:=Tryz.isAgg127
 z50:=Tryz.sizeOf127
 v50:=Tryz.zeroValue127
 t53:=Tryz.underlying226
 a53:=Tryz.isAgg226
 z53:=Tryz.sizeOf226
 v53:=Tryz.zeroValue226
 t55:=Tryz.underlying124
 a55:=Tryz.isAgg124
 z55:=Tryz.sizeOf124
 v55:=Tryz.zeroValue124
 t66:=Tryz.underlying233
 a66:=Tryz.isAgg233
 z66:=Tryz.sizeOf233
 v66:=Tryz.zeroValue233
 t70:=Tryz.underlying237
 a70:=Tryz.isAgg237
 z70:=Tryz.sizeOf237
 v70:=Tryz.zeroValue237
 t76:=Tryz.underlying241
 a76:=Tryz.isAgg241
 z76:=Tryz.sizeOf241
 v76:=Tryz.zeroValue241
 t77:=Tryz.underlying242
 a77:=Tryz.isAgg242
 z77:=Tryz.sizeOf242
 v77:=Tryz.zeroValue242 }
end Go.Proofs

namespace Go.Proofs.YtddbmpbihpkabaaGreat
open Go Go.Shelf Go.RowKit Go.Lib Go.Sort Sx
namespace Sx
theorem flat_get2 {k:Nat} (hk0:0<k):∀ {l:List (List Value)} {t:Nat},(∀ x∈l,x.length=k)→t<l.length*k→l.flatten[t]? = (l[t / k]?).bind (fun x=>x[t % k]?)
 | [],t,_,h=>by simp at h
 | x::l,t,hk,h=>by
  have hx:=hk x (List.mem_cons_self ..)
  rw [List.flatten_cons]
  rcases Nat.lt_or_ge t k with h1|h1
  ·rw [List.getElem?_append_left (by omega),Nat.div_eq_of_lt h1,Nat.mod_eq_of_lt h1];rfl
  ·obtain ⟨u,rfl⟩:∃ u,t=u+k:=⟨t-k,by omega⟩
   rw [List.getElem?_append_right (by omega),hx,Nat.add_sub_cancel,flat_get2 hk0 (fun y hy=>hk y (List.mem_cons_of_mem _ hy)) (by simp only [List.length_cons,Nat.add_mul,Nat.one_mul] at h;omega),Nat.add_div_right _ hk0,Nat.add_mod_right]
   rfl
theorem flat_len2 {k:Nat}:∀ {l:List (List Value)},(∀ x∈l,x.length=k)→l.flatten.length=l.length*k
 | [],_=>by simp
 | x::l,hk=>by
  rw [List.flatten_cons,List.length_append,hk x (List.mem_cons_self ..),flat_len2 fun y hy=>hk y (List.mem_cons_of_mem _ hy),List.length_cons,Nat.add_mul,Nat.one_mul]
  omega
theorem flatK_toList {α:Type} [Inhabited α] {enc:α→List Value} {k:Nat} (hk0:0<k) (hk:∀ x,(enc x).length=k) (d:List α):(flatK enc k d.toArray).toList=(d.map enc).flatten:=by
 have hm:∀ x∈d.map enc,x.length=k:=fun x hx=>by obtain ⟨y,_,rfl⟩:=List.mem_map.1 hx;exact hk y
 have hl:=flat_len2 hm
 rw [List.length_map] at hl
 refine List.ext_getElem? fun t => ?_
 rcases Nat.lt_or_ge t (d.length*k) with h|h
 ·have h2:=get_flatK enc k d.toArray t (by simpa using h)
  have hd:t / k<d.length:=Nat.div_lt_of_lt_mul (by rw [Nat.mul_comm];exact h)
  have hsz:t<(flatK enc k d.toArray).size:=by simpa using h
  rw [getElem!_pos (flatK enc k d.toArray) t hsz] at h2
  rw [flat_get2 hk0 hm (by simpa using h),List.getElem?_map,List.getElem?_eq_getElem hd,Array.getElem?_toList,Array.getElem?_eq_getElem hsz,h2]
  have e1:d.toArray[t / k]! = d[t / k]:=by rw [getElem!_pos d.toArray (t / k) (by simpa using hd)];simp
  rw [e1]
  have h3:t % k<(enc d[t / k]).length:=by rw [hk];exact Nat.mod_lt _ hk0
  rw [getElem!_pos (enc d[t / k]) (t % k) h3]
  simp [List.getElem?_eq_getElem h3]
 ·rw [List.getElem?_eq_none (by simpa using h),List.getElem?_eq_none (by omega)]
theorem heap_sort {α:Type} [Inhabited α] {enc:α→List Value} {k n b:Nat} {dk:Array α} {os:Array Obj} {w:World} {c:Array Value} {T:TypeId} (hb:w.heap[b]? = some (.cells c T (0,0))) :
  (sortWorldK enc k w b 0 n dk os).heap[b]? = some (.cells (putCells id 0 (flatK enc k dk) c) T (0,0)):=by
 have hlt:b<w.heap.size:=(Array.getElem?_eq_some_iff.1 hb).1
 unfold sortWorldK grow putRowK putRow mapBlock
 simp only
 rw [Array.getElem?_append_left (by simpa [Sort.ahead] using hlt)]
 simp [Sort.ahead,Array.getElem?_modify,hb,onCells]
theorem heap_sort_other {α:Type} [Inhabited α] {enc:α→List Value} {k n b i:Nat} {dk:Array α} {os:Array Obj} {w:World} (hi:i<w.heap.size) (hne:i≠b):(sortWorldK enc k w b 0 n dk os).heap[i]? = w.heap[i]? := by
 unfold sortWorldK grow putRowK putRow mapBlock
 simp only
 rw [Array.getElem?_append_left (by simpa [Sort.ahead] using hi)]
 simp [Sort.ahead,Array.getElem?_modify,Ne.symm hne]
theorem size_sort {α:Type} [Inhabited α] {enc:α→List Value} {k n b:Nat} {dk:Array α} {os:Array Obj} {w:World}:w.heap.size≤(sortWorldK enc k w b 0 n dk os).heap.size:=by
 unfold sortWorldK grow putRowK putRow mapBlock
 simp [Sort.ahead]
theorem put_flat {F:Array Value} {c:List Value} (h:F.size≤c.length):(putCells id 0 F c.toArray).toList=F.toList++c.drop F.size:=by
 refine List.ext_getElem? fun t => ?_
 rw [Array.getElem?_toList]
 unfold putCells
 rw [Array.getElem?_mapIdx]
 rcases Nat.lt_or_ge t F.size with h1|h1
 ·rw [List.getElem?_append_left (by simpa using h1)]
  have:t<c.length:=by omega
  simp [h1,this]
 ·rw [List.getElem?_append_right (by simpa using h1)]
  simp only [List.getElem?_drop,Array.length_toList]
  rw [show F.size+(t-F.size)=t by omega]
  simp
  have:¬ t<F.size:=by omega
  simp [this]
theorem dsR_flat {w:World} {M:Nat→Prop}:∀ {xs vs:List Value},DsR w M (xs.map .v) vs→vs=xs
 | [],[],_=>rfl
 | x::xs,v::vs,h=>by
  have h1:Rep w M (.v x) v:=h.1
  cases h1
  rw [dsR_flat h.2]
 | [],_::_,h=>h.elim
 | _::_,[],h=>h.elim
theorem dsR_of_flat {w:World} {M:Nat→Prop}:∀ {xs:List Value},(∀ v∈xs,v.oneCell'=true∧wfV v)→DsR w M (xs.map .v) xs
 | [],_=>trivial
 | x::xs,h=>⟨.v x (h x (List.mem_cons_self ..)).1 (h x (List.mem_cons_self ..)).2,dsR_of_flat fun v hv=>h v (List.mem_cons_of_mem _ hv)⟩
theorem flatL_v:∀ (xs:List Value),flatL (xs.map .v)=true
 | []=>rfl
 | x::xs=>flatL_v xs
theorem flatten_v {α:Type} {enc:α→List Value} (d:List α):(d.map fun x=>(enc x).map D.v).flatten=((d.map enc).flatten).map D.v:=by
 induction d with
 | nil=>rfl
 | cons x d ih=>rw [List.map_cons,List.flatten_cons,ih,List.map_cons,List.flatten_cons,List.map_append]
theorem sort_mu {P:Program} {ρ:Ren} {α:Type} [Inhabited α] (L:SlLaysF0.n6 P ρ) {k:Nat} (hk0:0<k) (aE:∀ w,(isAgg (ρ.t 24)).run P w=.ok true w) (zE:∀ w,(Go.sizeOf (ρ.t 24)).run P w=.ok k w)
  (enc:α→List Value) (hk:∀ x,(enc x).length=k) (h1:∀ x,∀ v∈enc x,v.oneCell'=true∧wfV v) (cf:α→α→Int) (hO:SWO (ltOf cf)) (hT:∀ x y,ltOf cf x y=false→ltOf cf y x=false→x=y) {g:Nat} {caps:List (List D)}
  (eg:∀ args w,(callFunc g args).run P w=.ok (.enter g args) w) (es:∀ args w,(callFunc (ρ.f 6) args).run P w=.ok (.enter (ρ.f 6) args) w)
  (hcmp:∀ x y,FnD P g ([.agg ((enc x).map .v),.agg ((enc y).map .v)]++refsC caps) (.c (.one (.v (.int .i64 (cf x y)))))) (d:List α) (hsz:d.length<4611686018427387904) :
  FnMu P (ρ.f 6) k (d.map fun x=>(enc x).map .v) [.one (.clo g caps)] ((d.mergeSort fun x y => !(ltOf cf) y x).map fun x=>(enc x).map .v):=by
 refine ⟨fun e he => ?_,fun w M v vs m hM hm hvs hB hv => ?_⟩
 ·obtain ⟨x,_,rfl⟩:=List.mem_map.1 he
  exact flatL_v _
 match vs,hvs with
 | [u],⟨hu,_⟩ =>
  obtain ⟨ps,rfl,hps⟩:=crefs_rel (show Rep w M (.clo g caps) u from hu)
  obtain ⟨x,rfl,hx⟩:=hv
  obtain ⟨⟨k1,k2,k3,k4,k5⟩,hreal⟩:=hB
  refine ⟨ρ.f 6,es _ _,?_⟩
  rw [List.length_map] at k2
  cases d with
  | nil =>
   have k2:0=m.len:=k2
   rw [← k2]
   refine (AnyF.slices_SortFunc_none L x m.cap _ w).mono ?_
   rintro e w' ⟨rfl,rfl⟩
   exact ⟨rfl,.refl _ _ _,⟨by simp,by simpa using k2,fun _=>by simp,rfl,k5⟩,by simpa using hreal⟩
  | cons y ys =>
   have hc0:0<m.cap:=by
    rcases Nat.eq_zero_or_pos m.cap with h|h
    ·have:=k3 h;simp at this
    ·exact h
   rw [hx hc0,← k2]
   obtain ⟨cs,⟨T,hcs⟩,c1,c2,c3,vals,rest,c4,c5⟩:=hreal (by simpa [Blk.real] using hc0)
   rw [flatten_v] at c5
   have hvals:=dsR_flat c5
   generalize hd:y::ys=d at *
   have hm':∀ x∈d.map enc,x.length=k:=fun x hx=>by obtain ⟨y,_,rfl⟩:=List.mem_map.1 hx;exact hk y
   have hfl:(d.map enc).flatten.length=d.length*k:=by rw [flat_len2 hm',List.length_map]
   have hbl:m.b<w.heap.size:=hM _ (hm hc0)
   have hH:HoldsK enc k w m.b 0 d.toArray:=by
    intro j hj
    have hj':j<d.length*k:=by simpa using hj
    rw [Nat.zero_add]
    refine ⟨?_,frozen_of_row w m.b j cs.toArray T hcs⟩
    rw [cell_of ⟨T,hcs⟩,c4,List.getElem?_append_left (by rw [hvals,hfl];exact hj'),hvals,← flatK_toList hk0 hk,Array.getElem?_toList,getElem!_pos (flatK enc k d.toArray) j hj,Array.getElem?_eq_getElem hj]
    rfl
   have hHold:∀ n (dk:Array α) os,Sx.Holds M w (sortWorldK enc k w m.b 0 n dk os):=fun n dk os =>
    ⟨size_sort,fun b hb hMb _=>heap_sort_other hb fun e=>hMb (by rw [e];exact hm hc0)⟩
   have hC:CmpLays P g ps.toArray enc k cf m.b 0 d.toArray.size w:=by
    intro n os dk hdk a b
    have hargs:DCsR (sortWorldK enc k w m.b 0 n dk os) M ([.agg ((enc a).map .v),.agg ((enc b).map .v)]++refsC caps) ([.agg (enc a).toArray,.agg (enc b).toArray]++ps) :=
     ⟨⟨_,rfl,dsR_of_flat (h1 a)⟩,⟨_,rfl,dsR_of_flat (h1 b)⟩,hps.mono (hHold n dk os) (fun _ _ h=>h)⟩
    rcases hcmp a b _ M _ ⟨fun b hb=>Nat.lt_of_lt_of_le (hM b hb) size_sort,gd_keep size_sort (fun b hb=>heap_sort_other (Nat.lt_of_lt_of_le hb (gd_size hM.gd)) fun e=>by have:=hM.ge _ (hm hc0);omega) hM.gd,hM.ge⟩ hargs with ⟨g',hg,hc⟩|⟨_,hg,_⟩
    ·rw [eg] at hg
     injection hg with h2
     injection h2 with h2
     subst h2
     have e:(#[Value.agg (enc a).toArray,.agg (enc b).toArray]++ps.toArray:Array Value)=([Value.agg (enc a).toArray,Value.agg (enc b).toArray]++ps).toArray:=by simp
     rw [e]
     refine hc.mono ?_
     rintro e w' ⟨u,rfl,hu,hb,hdr⟩
     have hu:Rep w' M (.v (.int .i64 (cf a b))) u:=hu
     cases hu
     obtain ⟨q,hq⟩:=regrown_of_below hb
     have hqd:w'.drawn=q.d:=by rw [hq];rfl
     refine ⟨rfl,q.d-(sortWorldK enc k w m.b 0 n dk os).drawn,q.os,?_⟩
     rw [hq]
     unfold redrawn World.drewN
     rw [show (sortWorldK enc k w m.b 0 n dk os).drawn+(q.d-(sortWorldK enc k w m.b 0 n dk os).drawn)=q.d by omega]
    ·rw [eg] at hg
     injection hg with h2
     cases h2
   have hlaw:=AnyQ.slices_SortFunc_total L k aE zE enc hk (fun x v hv=>(h1 x v hv).1) cf hO g ps.toArray m.b 0 m.cap d.toArray w eg hC hH hbl (by simpa using hsz) hT
   have e0:d.toArray.size=d.length:=by simp
   rw [e0] at hlaw
   refine hlaw.mono ?_
   rintro e w' ⟨rfl,n,os,rfl⟩
   generalize hs:(d.mergeSort fun x y => !(ltOf cf) y x)=s at *
   have hsl:s.length=d.length:=by rw [← hs];exact List.length_mergeSort _
   have hms:∀ x∈s.map enc,x.length=k:=fun x hx=>by obtain ⟨y,_,rfl⟩:=List.mem_map.1 hx;exact hk y
   have hsfl:(s.map enc).flatten.length=d.length*k:=by rw [flat_len2 hms,List.length_map,hsl]
   refine ⟨rfl,⟨rfl,rfl,rfl,size_sort,fun b hb hne=>heap_sort_other hb fun e=>hne ⟨hc0,e⟩,.inr ?_⟩,⟨fun x hx => ?_,by rw [List.length_map,hsl,k2],fun h=>by omega,rfl,k5⟩,fun _ => ?_⟩
   ·show w.drawn≤w.drawn+n
    omega
   ·obtain ⟨y,_,rfl⟩:=List.mem_map.1 hx
    rw [List.length_map];exact hk y
   ·have hsize:(flatK enc k s.toArray).size=d.length*k:=by simp [hsl]
    have hle:(flatK enc k s.toArray).size≤cs.length:=by rw [hsize,c3];exact Nat.mul_le_mul_right _ (by simpa using c1)
    refine ⟨(flatK enc k s.toArray).toList++cs.drop (flatK enc k s.toArray).size,⟨T,?_⟩,by rw [List.length_map,hsl];simpa using c1,c2,?_,(flatK enc k s.toArray).toList,cs.drop (flatK enc k s.toArray).size,rfl,?_⟩
    ·rw [heap_sort hcs,← put_flat hle]
    ·rw [List.length_append,Array.length_toList,List.length_drop]
     omega
    ·rw [flatten_v,flatK_toList hk0 hk]
     exact dsR_of_flat fun v hv=>by
      obtain ⟨x,hx,hvx⟩:=List.mem_flatten.1 hv
      obtain ⟨z,_,rfl⟩:=List.mem_map.1 hx
      exact h1 z v hvx
end Sx
end Go.Proofs.YtddbmpbihpkabaaGreat

namespace Go.Proofs.YtddbmpbihpkabaaGreat
open Go Go.RowKit Go.Sort Sx
set_option maxRecDepth 2000
def fx (n m:Int) (p:Pt):Int:=p.a*m+p.b*n
def ldr (n m:Int) (p q:Pt):Prop:=fx n m q<fx n m p∨fx n m p=fx n m q∧(q.b<p.b∨p.b=q.b∧p.id<q.id)
instance (n m:Int) (p q:Pt):Decidable (ldr n m p q):=by unfold ldr;infer_instance
def srt (n m:Int) (l:List Pt):List Pt:=l.mergeSort fun x y => !decide (ldr n m y x)
theorem leadN_ldr (n m:Int) (p q:Pt):leadN p.id p.b q.id q.b ((p.a-q.a)*m+(p.b-q.b)*n) > 0↔ldr n m p q:=by
 have e:(p.a-q.a)*m+(p.b-q.b)*n=fx n m p-fx n m q:=by unfold fx;simp only [Int.sub_mul];omega
 rw [e]
 unfold ldr leadN cmpN
 generalize fx n m p=x
 generalize fx n m q=y
 (repeat' split)<;>omega
def cfP (n m:Int) (p q:Pt):Int:=if p.id=q.id then 0 else if ldr n m p q then -1 else 1
theorem two02_ne {n m:Int} {p q:Pt} (hp:p.chk=0) (hq:q.chk=0) (ht:chk n m=0) (hne:p.id≠q.id):two02 p.id p.a p.b q.id q.a q.b n m=0:=by
 unfold two02
 rw [if_pos ⟨hp,hq,ht⟩,if_neg hne]
theorem fsorted1_fnd {n m:Int} {p q:Pt} (hp:p.chk=0) (hq:q.chk=0) (ht:chk n m=0):FnD Tryz.prog 121 [p.dc,q.dc,.one (.ref [i64 n,i64 m])] (ret1 (cfP n m p q)):=by
 have hcap:([[i64 n,i64 m]]:List (List D))[0]? = some [i64 n,i64 m]:=rfl
 unfold cfP
 by_cases h:p.id=q.id
 ·rw [if_pos h]
  refine fn_okD (by kernel_rfl) ty_okD rfl Tryz.func121 rfl (fun _ _=>Tryz.call121 _ _) rfl ?_
  intro hw
  clear hw
  repeat' ((conv=>whnf);first|(with_reducible first|refine br_t ?_|refine br_f ?_|refine zd ?_|refine za ?_|refine zg ?_)|refine zp ?_|refine zq ?_|(with_reducible first|refine bc (fun h => ?_) (fun h => ?_)|refine zt ?_|refine zf ?_|refine br_i (fun h => ?_) (fun h => ?_))|refine zg ?_|refine zi ?_|refine zb ?_)
  all_goals conv=>whnf
  all_goals rfl
 ·rw [if_neg h]
  have H:=kAhead_fnd p.id p.a p.b q.id q.a q.b n m
  unfold aheadV at H
  rw [if_pos (two02_ne hp hq ht h)] at H
  simp only [retBI] at H
  by_cases hl:ldr n m p q
  ·rw [if_pos hl]
   rw [decide_eq_true ((leadN_ldr n m p q).2 hl)] at H
   refine fn_okD (by kernel_rfl) ty_okD rfl Tryz.func121 rfl (fun _ _=>Tryz.call121 _ _) rfl ?_
   intro hw
   clear hw
   repeat' ((conv=>whnf);first|(with_reducible first|refine br_t ?_|refine br_f ?_|refine zd ?_|refine za ?_|refine zg ?_)|refine zp ?_|refine zq ?_|(with_reducible first|refine bc (fun h => ?_) (fun h => ?_)|refine zt ?_|refine zf ?_|refine br_i (fun h => ?_) (fun h => ?_))|refine zg ?_|refine zi ?_|refine zb ?_)
   all_goals conv=>whnf
   all_goals rfl
  ·rw [if_neg hl]
   rw [decide_eq_false (fun h=>hl ((leadN_ldr n m p q).1 h))] at H
   refine fn_okD (by kernel_rfl) ty_okD rfl Tryz.func121 rfl (fun _ _=>Tryz.call121 _ _) rfl ?_
   intro hw
   clear hw
   repeat' ((conv=>whnf);first|(with_reducible first|refine br_t ?_|refine br_f ?_|refine zd ?_|refine za ?_|refine zg ?_)|refine zp ?_|refine zq ?_|(with_reducible first|refine bc (fun h => ?_) (fun h => ?_)|refine zt ?_|refine zf ?_|refine br_i (fun h => ?_) (fun h => ?_))|refine zg ?_|refine zi ?_|refine zb ?_)
   all_goals conv=>whnf
   all_goals rfl
def apart (l:List Pt):Prop:=∀ p∈l,∀ q∈l,p.id=q.id→p=q
theorem incr_apart {l:List Pt} (h:incr l=true):apart l:=by
 intro p hp q hq e
 obtain ⟨i,hi,rfl⟩:=List.getElem_of_mem hp
 obtain ⟨j,hj,rfl⟩:=List.getElem_of_mem hq
 rcases Nat.lt_trichotomy i j with h1|h1|h1
 ·have:=incr_lt h j i hj h1;omega
 ·exact getElem_congr rfl h1 _
 ·have:=incr_lt h i j hi h1;omega
theorem lt_cfP {n m:Int} {l:List Pt} (ha:apart l) {p q:Pt} (hp:p∈l) (hq:q∈l):ltOf (cfP n m) p q=decide (ldr n m p q):=by
 unfold ltOf cfP
 by_cases h:p.id=q.id
 ·have:=ha p hp q hq h
  subst this
  rw [if_pos rfl]
  have:¬ ldr n m p p:=by unfold ldr;omega
  simp [this]
 ·rw [if_neg h]
  by_cases hl:ldr n m p q<;>simp [hl]
theorem sortPt_mu {n m:Int} {l:List Pt} (hl:∀ p∈l,p.chk=0) (ha:apart l) (ht:chk n m=0) (hsz:l.length≤1000000):FnMu Tryz.prog 120 3 (l.map Pt.c) [.one (.clo 121 [[i64 n,i64 m]])] ((srt n m l).map Pt.c):=by
 cases l with
 | nil =>
  have:=sort_mu (P:=Tryz.prog) (ρ:=Tryz.sortPt_ren) (α:=Unit) (k:=3) Tryz.sortPt (by decide) Tryz.isAgg49 Tryz.sizeOf49 (fun _=>[.int .i64 0,.int .i64 0,.int .i64 0]) (fun _=>rfl) (fun _ v hv=>by simp at hv;subst hv;exact ⟨rfl,WD_v.1 (wd_i64.2 (by omega))⟩) (fun _ _=>0)
   ⟨fun _=>rfl,fun _ _ _ h=>by simp [ltOf] at h,fun _ _ _ _ _=>rfl⟩ (fun _ _ _ _=>rfl) (g:=121) (caps:=[[i64 n,i64 m]]) (fun _ _=>Tryz.call121 _ _) (fun _ _=>Tryz.call120 _ _)
   (fun _ _=>by
    have:=fsorted1_fnd (n:=n) (m:=m) (p:=⟨0,0,0⟩) (q:=⟨0,0,0⟩) rfl rfl ht
    unfold cfP at this
    rw [if_pos rfl] at this
    exact this) [] (by decide)
  simp only [List.map_nil,List.mergeSort_nil] at this
  rw [show srt n m []=[] by simp [srt]]
  exact this
 | cons y ys =>
  generalize hd:y::ys=l at *
  have:Inhabited {p:Pt // p∈l}:=⟨⟨y,by rw [← hd];exact List.mem_cons_self ..⟩⟩
  have key:=sort_mu (P:=Tryz.prog) (ρ:=Tryz.sortPt_ren) (α:={p:Pt // p∈l}) (k:=3) Tryz.sortPt (by decide) Tryz.isAgg49 Tryz.sizeOf49 (fun p=>[.int .i64 p.1.id,.int .i64 p.1.a,.int .i64 p.1.b]) (fun _=>rfl) (fun p v hv=>by
    have hc:=cpt_ok (hl p.1 p.2)
    simp at hv
    rcases hv with rfl|rfl|rfl
    all_goals exact ⟨rfl,WD_v.1 (wd_i64.2 (by omega))⟩) (fun p q=>cfP n m p.1 q.1)
   ⟨fun p => ?_,fun p q r h1 h2 => ?_,fun p q r h1 h2 => ?_⟩ (fun p q h1 h2 => ?_) (g:=121) (caps:=[[i64 n,i64 m]]) (fun _ _=>Tryz.call121 _ _) (fun _ _=>Tryz.call120 _ _)
   (fun p q=>fsorted1_fnd (hl p.1 p.2) (hl q.1 q.2) ht) l.attach (by simp;omega)
  ·have e1:(l.attach.map fun p=>([.int .i64 p.1.id,.int .i64 p.1.a,.int .i64 p.1.b]:List Value).map D.v)=l.map Pt.c:=by
    rw [show (fun p:{p:Pt // p∈l}=>([.int .i64 p.1.id,.int .i64 p.1.a,.int .i64 p.1.b]:List Value).map D.v)=Pt.c ∘ Subtype.val from rfl,← List.map_map,List.attach_map_subtype_val]
   have e2:((l.attach.mergeSort fun x y => !(ltOf fun p q:{p:Pt // p∈l}=>cfP n m p.1 q.1) y x).map fun p=>([.int .i64 p.1.id,.int .i64 p.1.a,.int .i64 p.1.b]:List Value).map D.v)=(srt n m l).map Pt.c:=by
    rw [show (fun p:{p:Pt // p∈l}=>([.int .i64 p.1.id,.int .i64 p.1.a,.int .i64 p.1.b]:List Value).map D.v)=Pt.c ∘ Subtype.val from rfl,← List.map_map]
    rw [List.map_mergeSort (s:=fun x y => !decide (ldr n m y x)) (fun a _ b _=>by
     have:=lt_cfP (n:=n) (m:=m) ha b.2 a.2
     unfold ltOf at this ⊢
     rw [this]),List.attach_map_subtype_val]
    rfl
   rw [e1,e2] at key
   exact key
  ·exact (lt_cfP ha p.2 p.2).trans (decide_eq_false (by unfold ldr;omega))
  ·have k1:=of_decide_eq_true ((lt_cfP ha p.2 q.2).symm.trans h1)
   have k2:=of_decide_eq_true ((lt_cfP ha q.2 r.2).symm.trans h2)
   exact (lt_cfP ha p.2 r.2).trans (decide_eq_true (by unfold ldr at *;omega))
  ·have k1:=of_decide_eq_false ((lt_cfP ha p.2 q.2).symm.trans h1)
   have k2:=of_decide_eq_false ((lt_cfP ha q.2 r.2).symm.trans h2)
   exact (lt_cfP ha p.2 r.2).trans (decide_eq_false (by unfold ldr at *;omega))
  ·have k1:=of_decide_eq_false ((lt_cfP ha p.2 q.2).symm.trans h1)
   have k2:=of_decide_eq_false ((lt_cfP ha q.2 p.2).symm.trans h2)
   exact Subtype.ext (ha _ p.2 _ q.2 (by unfold ldr at *;omega))
end Go.Proofs.YtddbmpbihpkabaaGreat

namespace Go.Proofs.YtddbmpbihpkabaaGreat
open Go Go.RowKit Go.Sort Sx
set_option maxRecDepth 2000
def tchk (l:List Pt) (n m:Int):Int:=if fchk l=0 then chk n m else fchk l
abbrev retL (l:List Pt) (e:Int):DV:=.tup [.one (pts l),.one (i64 e)]
theorem fsorted_fn (l:List Pt) (n m:Int):FnOK Tryz.prog 86 [fld l,rat n m] (if tchk l n m=0 then retL (srt n m l) 0 else retL [] (tchk l n m)):=by
 have H1:=fCheck_fn l
 have H2:=check_fn n m
 unfold tchk
 by_cases h1:fchk l=0
 ·obtain ⟨k1,k2,k3⟩:=fchk_ok h1
  simp only [if_pos h1]
  rw [h1] at H1
  by_cases h2:chk n m=0
  ·rw [if_pos h2]
   rw [h2] at H2
   have H3:=clonePt_own (l.map Pt.c) (by simp;omega)
   have H4:=sortPt_mu (n:=n) (m:=m) k2 (incr_apart k3) h2 (by omega)
   refine fn_ok (by kernel_rfl) (ty_okK [21] [120] [] []) Tryz.func86 rfl (fun _ _=>Tryz.call86 _ _) rfl ?_
   intro hw
   clear hw
   exact zw
  ·rw [if_neg h2]
   have h8:chk n m=8:=(chk_08 n m).resolve_left h2
   rw [h8] at H2 ⊢
   refine fn_ok (by kernel_rfl) ty_ok Tryz.func86 rfl (fun _ _=>Tryz.call86 _ _) rfl ?_
   intro hw
   clear hw
   exact zw
 ·simp only [if_neg h1]
  generalize fchk l=z at *
  refine fn_ok (by kernel_rfl) ty_ok Tryz.func86 rfl (fun _ _=>Tryz.call86 _ _) rfl ?_
  intro hw
  clear hw
  exact zw
def leadV (l:List Pt) (n m:Int):Int × Int:=if tchk l n m=0 then (if l.length=0 then (0,42) else (((srt n m l)[0]?.getD default).id,0)) else (0,tchk l n m)
theorem fLeader_fn (l:List Pt) (n m:Int):FnOK Tryz.prog 55 [fld l,rat n m] (ret2 (leadV l n m)):=by
 refine fn_ok (by kernel_rfl) ty_ok Tryz.func55 rfl (fun _ _=>Tryz.call55 _ _) rfl ?_
 intro hw
 clear hw
 have H:=fsorted_fn l n m
 unfold leadV
 by_cases h:tchk l n m=0
 ·rw [if_pos h] at H ⊢
  have hl:(srt n m l).length=l.length:=List.length_mergeSort _
  by_cases h0:l.length=0
  ·rw [if_pos h0]
   repeat' ((conv=>whnf);first|(with_reducible first|refine br_t ?_|refine br_f ?_|refine za ?_|refine zg ?_)|rw [List.length_map]|refine zp ?_|refine zq ?_|(with_reducible first|refine bc (fun h => ?_) (fun h => ?_)|refine zt ?_|refine zf ?_|refine br_i (fun h => ?_) (fun h => ?_))|refine zg ?_|refine zi ?_|refine zb ?_)
   all_goals conv=>whnf
   all_goals rfl
  ·rw [if_neg h0]
   have hlt:0<(srt n m l).length:=by omega
   have hel:=pts_get hlt
   rw [List.getElem?_eq_getElem hlt]
   repeat' ((conv=>whnf);first|(with_reducible first|refine br_t ?_|refine br_f ?_|refine za ?_|refine zg ?_)|rw [List.length_map]|refine zp ?_|refine zq ?_|(with_reducible first|refine bc (fun h => ?_) (fun h => ?_)|refine zt ?_|refine zf ?_|refine br_i (fun h => ?_) (fun h => ?_))|refine zg ?_|refine zi ?_|refine zb ?_)
   all_goals conv=>whnf
   all_goals rfl
 ·rw [if_neg h] at H ⊢
  generalize tchk l n m=z at *
  exact zw
def rnk (l:List Pt) (n m:Int) (p:Pt):Nat:=l.countP fun q=>decide (q.id≠p.id∧ldr n m q p)
theorem rfRanked_fn {l:List Pt} {p:Pt} {n m:Int} (hl:∀ p∈l,p.chk=0) (hp:p.chk=0):FnOK Tryz.prog 94 [fld l,p.dc,rat n m] (ret1 (rnk l n m p:Nat)):=by
 refine fn_ok (by kernel_rfl) ty_ok Tryz.func94 rfl (fun _ _=>Tryz.call94 _ _) rfl ?_
 intro hw
 simp only [WDCs,WDC,WDs] at hw
 obtain ⟨w1,w2⟩:=wd_pts hw.1.1
 clear hw
 repeat' ((conv=>whnf);first|(with_reducible first|refine br_t ?_|refine br_f ?_|refine za ?_|refine zg ?_)|rw [List.length_map]|refine zp ?_|refine zq ?_|(with_reducible first|refine bc (fun h => ?_) (fun h => ?_)|refine zt ?_|refine zf ?_|refine br_i (fun h => ?_) (fun h => ?_))|refine zg ?_|refine zi ?_|refine zb ?_)
 refine loop_J (by kernel_rfl) ty_ok (σ:=Nat) (fun i=>[(8,sV (.int .i64 i)),(7,sV (.int .i64 (rnk (l.take i) n m p:Nat)))]) (fun _=>[]) (fun i=>i≤l.length) (fun i=>l.length-i) 0 (Nat.zero_le _) ?_ ?_
 ·(conv=>whnf);exact zent
 intro i hi
 rcases Nat.lt_or_ge i l.length with hlt|hge
 ·have hel:=pts_get hlt
  have hc:=hl _ (List.getElem_mem hlt)
  have H:=kkLeads_fn l[i].id l[i].a l[i].b p.id p.a p.b n m hc hp
  have hk:rnk (l.take i) n m p≤i:=by unfold rnk;refine Nat.le_trans List.countP_le_length ?_;simp;omega
  have hr:rnk (l.take (i+1)) n m p=rnk (l.take i) n m p+if l[i].id≠p.id∧ldr n m l[i] p then 1 else 0:=by
   unfold rnk
   rw [List.take_succ_eq_append_getElem hlt,List.countP_append,List.countP_singleton]
   simp
  by_cases h1:l[i].id=p.id
  ·rw [if_neg (fun h=>h.1 h1)] at hr
   generalize rnk (l.take i) n m p=r at *
   repeat' ((conv=>whnf);first|(with_reducible first|refine br_t ?_|refine br_f ?_|refine za ?_|refine zg ?_)|rw [List.length_map]|refine zp ?_|refine zq ?_|(with_reducible first|refine bc (fun h => ?_) (fun h => ?_)|refine zt ?_|refine zf ?_|refine br_i (fun h => ?_) (fun h => ?_))|refine zg ?_|refine zi ?_|refine zb ?_)
   all_goals conv=>whnf
   refine ⟨i+1,by omega,?_,by omega⟩
   (conv=>whnf);exact zent
  ·by_cases h2:ldr n m l[i] p
   ·rw [if_pos ⟨h1,h2⟩] at hr
    rw [decide_eq_true ((leadN_ldr n m l[i] p).2 h2)] at H
    generalize rnk (l.take i) n m p=r at *
    repeat' ((conv=>whnf);first|(with_reducible first|refine br_t ?_|refine br_f ?_|refine za ?_|refine zg ?_)|rw [List.length_map]|refine zp ?_|refine zq ?_|(with_reducible first|refine bc (fun h => ?_) (fun h => ?_)|refine zt ?_|refine zf ?_|refine br_i (fun h => ?_) (fun h => ?_))|refine zg ?_|refine zi ?_|refine zb ?_)
    all_goals conv=>whnf
    refine ⟨i+1,by omega,?_,by omega⟩
    (conv=>whnf);exact zent
   ·rw [if_neg (fun h=>h2 h.2)] at hr
    rw [decide_eq_false (fun h=>h2 ((leadN_ldr n m l[i] p).1 h))] at H
    generalize rnk (l.take i) n m p=r at *
    repeat' ((conv=>whnf);first|(with_reducible first|refine br_t ?_|refine br_f ?_|refine za ?_|refine zg ?_)|rw [List.length_map]|refine zp ?_|refine zq ?_|(with_reducible first|refine bc (fun h => ?_) (fun h => ?_)|refine zt ?_|refine zf ?_|refine br_i (fun h => ?_) (fun h => ?_))|refine zg ?_|refine zi ?_|refine zb ?_)
    all_goals conv=>whnf
    refine ⟨i+1,by omega,?_,by omega⟩
    (conv=>whnf);exact zent
 ·rw [List.take_of_length_le hge]
  repeat' ((conv=>whnf);first|(with_reducible first|refine br_t ?_|refine br_f ?_|refine za ?_|refine zg ?_)|rw [List.length_map]|refine zp ?_|refine zq ?_|(with_reducible first|refine bc (fun h => ?_) (fun h => ?_)|refine zt ?_|refine zf ?_|refine br_i (fun h => ?_) (fun h => ?_))|refine zg ?_|refine zi ?_|refine zb ?_)
  all_goals conv=>whnf
  all_goals rfl
end Go.Proofs.YtddbmpbihpkabaaGreat

namespace Go.Proofs.YtddbmpbihpkabaaGreat
open Go Go.RowKit Go.Sort Sx
set_option maxRecDepth 2000
theorem incr_nodup {l:List Pt} (h:incr l=true):(l.map Pt.id).Nodup:=by
 rw [List.nodup_iff_pairwise_ne,List.pairwise_map,List.pairwise_iff_getElem]
 intro i j hi hj hij
 have:=incr_lt h j i hj hij
 omega
theorem srt_perm (n m:Int) (l:List Pt):(srt n m l).Perm l:=List.mergeSort_perm l _
theorem srt_len (n m:Int) (l:List Pt):(srt n m l).length=l.length:=List.length_mergeSort _
theorem srt_sorted (n m:Int) (l:List Pt):(srt n m l).Pairwise fun x y=>¬ ldr n m y x:=by
 have h:=List.pairwise_mergeSort (le:=fun x y => !decide (ldr n m y x)) (fun a b c h1 h2=>by
  simp at *
  unfold ldr at *
  omega) (fun a b=>by
  simp only [Bool.or_eq_true,Bool.not_eq_true',decide_eq_false_iff_not]
  unfold ldr
  omega) l
 exact h.imp fun h=>by simpa using h
theorem srt_ids {n m:Int} {l:List Pt} (h:incr l=true) {i j:Nat} (hi:i<(srt n m l).length) (hj:j<(srt n m l).length) (hne:i≠j):(srt n m l)[i].id≠(srt n m l)[j].id:=by
 have hN:((srt n m l).map Pt.id).Nodup:=((srt_perm n m l).map Pt.id).nodup_iff.2 (incr_nodup h)
 intro e
 have:=(List.getElem_inj (xs:=(srt n m l).map Pt.id) (i:=i) (j:=j) (h₀:=by simpa using hi) (h₁:=by simpa using hj) hN).1 (by simpa using e)
 exact hne this
theorem rnk_srt {n m:Int} {l:List Pt} (h:incr l=true) {r:Nat} (hr:r<(srt n m l).length):rnk l n m (srt n m l)[r]=r:=by
 have hp:=(srt_perm n m l).countP_eq (fun q=>decide (q.id≠(srt n m l)[r].id∧ldr n m q (srt n m l)[r]))
 have hs:=List.pairwise_iff_getElem.1 (srt_sorted n m l)
 have hi:=fun i hi=>srt_ids (n:=n) (m:=m) h (i:=i) (j:=r) hi hr
 unfold rnk
 rw [← hp]
 generalize srt n m l=s at *
 have e:s=s.take r++s[r]::s.drop (r+1):=by rw [← List.drop_eq_getElem_cons hr,List.take_append_drop]
 have c1:(s.take r).countP (fun q=>decide (q.id≠s[r].id∧ldr n m q s[r]))=r:=by
  rw [List.countP_eq_length.2 (fun q hq => ?_),List.length_take]
  ·omega
  ·obtain ⟨j,hj,rfl⟩:=List.getElem_of_mem hq
   rw [List.length_take] at hj
   rw [List.getElem_take]
   have k1:=hs j r (by omega) hr (by omega)
   have k2:=hi j (by omega) (by omega)
   rw [decide_eq_true_eq]
   refine ⟨k2,?_⟩
   unfold ldr at *
   omega
 have c2:(s.drop (r+1)).countP (fun q=>decide (q.id≠s[r].id∧ldr n m q s[r]))=0:=by
  rw [List.countP_eq_zero]
  intro q hq
  obtain ⟨j,hj,rfl⟩:=List.getElem_of_mem hq
  rw [List.length_drop] at hj
  rw [List.getElem_drop]
  have k1:=hs r (r+1+j) hr (by omega) (by omega)
  simp only [decide_eq_true_eq,not_and]
  exact fun _=>k1
 conv=>lhs;arg 2;rw [e]
 rw [List.countP_append,List.countP_cons,c1,c2]
 simp
theorem rnk_lt {n m:Int} {l:List Pt} (h:incr l=true) {p:Pt} (hp:p∈l):rnk l n m p<l.length:=by
 obtain ⟨r,hr,rfl⟩:=List.getElem_of_mem ((srt_perm n m l).mem_iff.2 hp)
 rw [rnk_srt h hr,← srt_len n m l];exact hr
theorem srt_rnk {n m:Int} {l:List Pt} (h:incr l=true) {p:Pt} (hp:p∈l):(srt n m l)[rnk l n m p]? = some p:=by
 obtain ⟨r,hr,rfl⟩:=List.getElem_of_mem ((srt_perm n m l).mem_iff.2 hp)
 rw [rnk_srt h hr,List.getElem?_eq_getElem hr]
abbrev ints (l:List Int):D:=.list 1 (l.map fun i=>[i64 i])
def ordV (l:List Pt) (n m:Int):List Int:=(srt n m l).map Pt.id
set_option maxHeartbeats 1000000 in
theorem rfOrdered_fn {l:List Pt} {n m:Int} (hl:∀ p∈l,p.chk=0) (hs:incr l=true) (hsz:l.length≤1000000):FnOK Tryz.prog 61 [fld l,rat n m] (.c (.one (ints (ordV l n m)))):=by
 refine fn_ok (by kernel_rfl) (ty_okK [10] [] [] []) Tryz.func61 rfl (fun _ _=>Tryz.call61 _ _) rfl ?_
 intro hw
 clear hw
 repeat' ((conv=>whnf);first|(with_reducible first|refine br_t ?_|refine br_f ?_|refine za ?_|refine zg ?_|refine zo ?_)|rw [List.length_map]|refine zp ?_|refine zq ?_|(with_reducible first|refine bc (fun h => ?_) (fun h => ?_)|refine zt ?_|refine zf ?_|refine br_i (fun h => ?_) (fun h => ?_))|refine zg ?_|refine zi ?_|refine zb ?_|refine zl ?_)
 refine loop_J (by kernel_rfl) (ty_okK [10] [] [] []) (σ:=Nat × List (List D)) (fun s=>[(6,sV (.int .i64 s.1))]) (fun s=>[(10,.row 1 s.2 0)]) (fun s=>s.1≤l.length∧s.2.length=l.length∧(∀ e∈s.2,e.length=1)∧∀ j (h:j<l.length),j<s.1→s.2[rnk l n m l[j]]? = some [i64 l[j].id]) (fun s=>l.length-s.1)
  (0,List.replicate l.length [i64 0]) ⟨Nat.zero_le _,by simp,fun e he=>by simp at he;rw [he.2];rfl,fun j _ h=>absurd h (Nat.not_lt_zero _)⟩ ?_ ?_
 ·(conv=>whnf);exact zent
 rintro ⟨i,o⟩ ⟨h1,h2,h3,h4⟩
 simp only at h1 h2 h3 h4
 rcases Nat.lt_or_ge i l.length with hlt|hge
 ·have hel:=pts_get hlt
  have H:=rfRanked_fn (n:=n) (m:=m) hl (hl _ (List.getElem_mem hlt))
  have hr:=rnk_lt (n:=n) (m:=m) hs (List.getElem_mem hlt)
  generalize hrr:rnk l n m l[i]=r at *
  obtain ⟨e0,he0⟩:∃ e,o[r]? = some e:=⟨_,List.getElem?_eq_getElem (by omega)⟩
  have hlen0:e0.length=1:=h3 _ (List.mem_of_getElem? he0)
  match e0,hlen0 with
  | [z],_ =>
   have hel2:o[((r:Nat):Int).toNat]? = some [z]:=by rw [Int.toNat_natCast];exact he0
   repeat' ((conv=>whnf);first|(with_reducible first|refine br_t ?_|refine br_f ?_|refine za ?_|refine zg ?_|refine zo ?_)|rw [List.length_map]|refine zp ?_|refine zq ?_|(with_reducible first|refine bc (fun h => ?_) (fun h => ?_)|refine zt ?_|refine zf ?_|refine br_i (fun h => ?_) (fun h => ?_))|refine zg ?_|refine zi ?_|refine zb ?_|refine zl ?_)
   all_goals conv=>whnf
   refine ⟨(i+1,o.set r [i64 l[i].id]),⟨by show _≤_;omega,by simpa using h2,fun e he => ?_,fun j hj hji => ?_⟩,?_,by show _-_<_-_;omega⟩
   ·rcases List.mem_or_eq_of_mem_set he with h|h
    ·exact h3 e h
    ·rw [h];rfl
   ·rcases Nat.lt_or_ge j i with h|h
    ·have hne:r≠rnk l n m l[j]:=fun e=>by
      have k1:=srt_rnk (n:=n) (m:=m) hs (List.getElem_mem hj)
      have k2:=srt_rnk (n:=n) (m:=m) hs (List.getElem_mem hlt)
      rw [hrr,e,k1] at k2
      injection k2 with k2
      have:=incr_lt hs i j hlt h
      rw [k2] at this;omega
     show (o.set r _)[_]? = _
     rw [List.getElem?_set_ne hne]
     exact h4 j hj h
    ·have:j=i:=by simp only at hji;omega
     subst this
     show (o.set r _)[_]? = _
     rw [hrr,List.getElem?_set_self (by omega)]
   ·(conv=>whnf);exact zent
 ·have e:o=(ordV l n m).map fun i=>[i64 i]:=by
   refine List.ext_getElem? fun r => ?_
   rcases Nat.lt_or_ge r l.length with h|h
   ·have hr:r<(srt n m l).length:=by rw [srt_len];exact h
    obtain ⟨j,hj,e⟩:=List.getElem_of_mem ((srt_perm n m l).mem_iff.1 (List.getElem_mem hr))
    have:=h4 j hj (by omega)
    rw [e,rnk_srt hs hr] at this
    rw [this,ordV,List.map_map,List.getElem?_map,List.getElem?_eq_getElem hr]
    rfl
   ·rw [List.getElem?_eq_none (by omega),List.getElem?_eq_none (by simp [ordV,srt_len];omega)]
  rw [e]
  repeat' ((conv=>whnf);first|(with_reducible first|refine br_t ?_|refine br_f ?_|refine za ?_|refine zg ?_|refine zo ?_)|rw [List.length_map]|refine zp ?_|refine zq ?_|(with_reducible first|refine bc (fun h => ?_) (fun h => ?_)|refine zt ?_|refine zf ?_|refine br_i (fun h => ?_) (fun h => ?_))|refine zg ?_|refine zi ?_|refine zb ?_|refine zl ?_)
  all_goals conv=>whnf
  all_goals rfl
end Go.Proofs.YtddbmpbihpkabaaGreat

namespace Go.Proofs.YtddbmpbihpkabaaGreat
open Go Go.RowKit Go.Sort Sx
set_option maxRecDepth 2000
theorem ints_get {l:List Int} {i:Nat} (h:i<l.length):(l.map fun i=>[i64 i])[((i:Nat):Int).toNat]? = some [i64 l[i]]:=by
 rw [Int.toNat_natCast,List.getElem?_map,List.getElem?_eq_getElem h];rfl
def findV (l:List Pt) (id:Int):Pt × Int:=if fchk l=0 then (if has l id then (l[pos l id]?.getD default,0) else (⟨0,0,0⟩,6)) else (⟨0,0,0⟩,fchk l)
abbrev retPt (x:Pt × Int):DV:=.tup [x.1.dc,.one (i64 x.2)]
theorem fFind_fn (l:List Pt) (id:Int):FnOK Tryz.prog 56 [fld l,.one (i64 id)] (retPt (findV l id)):=by
 refine fn_ok (by kernel_rfl) ty_ok Tryz.func56 rfl (fun _ _=>Tryz.call56 _ _) rfl ?_
 intro hw
 clear hw
 have H:=fplace_fn l id
 unfold findV
 unfold placeV at H
 by_cases h0:fchk l=0
 ·obtain ⟨k1,k2,k3⟩:=fchk_ok h0
  rw [if_pos h0] at H ⊢
  cases hh:has l id
  ·rw [hh,if_neg (by decide)] at H
   repeat' ((conv=>whnf);first|(with_reducible first|refine br_t ?_|refine br_f ?_|refine za ?_|refine zg ?_)|rw [List.length_map]|refine zp ?_|refine zq ?_|(with_reducible first|refine bc (fun h => ?_) (fun h => ?_)|refine zt ?_|refine zf ?_|refine br_i (fun h => ?_) (fun h => ?_))|refine zg ?_|refine zi ?_|refine zb ?_)
   all_goals conv=>whnf
   all_goals rfl
  ·rw [hh,if_pos rfl] at H
   obtain ⟨hlt,_⟩:=(has_pos k3).1 hh
   have hel:=pts_get hlt
   rw [if_pos rfl,List.getElem?_eq_getElem hlt]
   repeat' ((conv=>whnf);first|(with_reducible first|refine br_t ?_|refine br_f ?_|refine za ?_|refine zg ?_)|rw [List.length_map]|refine zp ?_|refine zq ?_|(with_reducible first|refine bc (fun h => ?_) (fun h => ?_)|refine zt ?_|refine zf ?_|refine br_i (fun h => ?_) (fun h => ?_))|refine zg ?_|refine zi ?_|refine zb ?_)
   all_goals conv=>whnf
   all_goals rfl
 ·rw [if_neg h0] at H ⊢
  generalize fchk l=z at *
  exact zw
theorem at1_has {l:List Pt} {id:Int} (hs:incr l=true):at1 l id 0=if has l id then (pos l id:Int) else -1:=by
 obtain ⟨h1,h2⟩:=pos_spec (id:=id) hs
 have h3:=has_pos (id:=id) hs
 have hne:∀ k (h:k<l.length),k<pos l id→l[k].id≠id:=fun k h hk=>by have:=h1 k h hk;omega
 cases hh:has l id
 ·rw [if_neg (by decide)]
  have hn:∀ k (h:k<l.length),k<l.length→l[k].id≠id:=fun k h _ e=>by
   have:has l id=true:=by unfold has;exact List.any_eq_true.2 ⟨_,List.getElem_mem h,by simpa using e⟩
   rw [hh] at this;cases this
  rw [at1_drop rfl (Nat.le_refl _) hn,List.drop_eq_nil_of_le (Nat.le_refl _),at1]
 ·obtain ⟨hlt,he⟩:=h3.1 hh
  rw [if_pos rfl,at1_drop rfl (by omega) hne,List.drop_eq_getElem_cons hlt,at1,if_pos he]
end Go.Proofs.YtddbmpbihpkabaaGreat
