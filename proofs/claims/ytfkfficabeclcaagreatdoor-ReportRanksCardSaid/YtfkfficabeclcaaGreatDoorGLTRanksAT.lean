import Derived.Test.YtfkfficabeclcaaGreatDoorGLTRanksAS
import Derived.Test.YtfkfficabeclcaaGreatDoorGLTRanksAP
import Derived.Test.YtfkfficabeclcaaGreatDoorGLTRanksAQ
import Derived.Lib.AtoiTie
import Derived.Lib.AtoiAllCases
set_option linter.all false
namespace Go.Proofs.YtfkfficabeclcaaGreatDoor
open Go.RowKit Go.Sort Sx
def plcs (l:List Pt) (n m:Int) (i:Nat):List (List D):=(l.take i).map (fun p=>[i64 (plc p n m).1,i64 (plc p n m).2])++List.replicate (l.length-i) [i64 0,i64 0]
theorem plcs_len {l:List Pt} {n m:Int} {i:Nat}:i≤l.length→(plcs l n m i).length=l.length:=by
 intro h
 simp [plcs];omega
theorem plcs_get0 {l:List Pt} {n m:Int} {i:Nat} (h:i<l.length):(plcs l n m i)[((i:Nat):Int).toNat]? = some [i64 0,i64 0]:=by
 rw [Int.toNat_natCast,plcs,List.getElem?_append_right (by simp;omega)]
 rw [List.getElem?_replicate,if_pos (by simp;omega)]
theorem plcs_set {l:List Pt} {n m:Int} {i:Nat} (h:i<l.length):(plcs l n m i).set ((i:Nat):Int).toNat [i64 (plc l[i] n m).1,i64 (plc l[i] n m).2]=plcs l n m (i+1):=by
 rw [Int.toNat_natCast]
 unfold plcs
 have hk:l.length-i=(l.length-(i+1))+1:=by omega
 rw [List.take_succ_eq_append_getElem h,hk,List.replicate_succ,List.set_append_right _ _ (by simp;omega)]
 have h0:i-((l.take i).map fun p:Pt=>[i64 (plc p n m).1,i64 (plc p n m).2]).length=0:=by simp;omega
 rw [h0,List.map_append,List.append_assoc]
 rfl
theorem plcs_all (l:List Pt) (n m:Int):plcs l n m l.length=l.map fun p=>[i64 (plc p n m).1,i64 (plc p n m).2]:=by
 simp [plcs]
theorem plcs_get {l:List Pt} {n m:Int} {i:Nat} (h:i<l.length):(plcs l n m l.length)[((i:Nat):Int).toNat]? = some [i64 (plc l[i] n m).1,i64 (plc l[i] n m).2]:=by
 rw [plcs_all,Int.toNat_natCast,List.getElem?_map,List.getElem?_eq_getElem h];rfl
def cst (l:List Pt) (s:CSt) (x y:Int):Prop:=(s.2.2.2=0∧s.2.2.1=0∧x=0∧y=0)∨cgood l s∧∃ (h1:s.1<l.length) (h2:s.2.1<l.length),x=l[s.1].id∧y=l[s.2.1].id
set_option maxHeartbeats 4000000 in
set_option maxRecDepth 100000 in
theorem oClosest_fn (l:List Pt) (n m:Int):FnOK Tryz.prog 93 [fld l,rat n m] (retC (closV l n m)):=by
 refine fn_ok (by kernel_rfl) (ty_okK [40] [] [] []) Tryz.func93 rfl (fun _ _=>Tryz.call93 _ _) rfl ?_
 intro hw
 clear hw
 have H1:=fCheck_fn l
 have H2:=asked_fn n m
 have H3:=ofirst_fn (fchk l) (askd n m)
 unfold closV
 by_cases h0:fchk l=0
 ·obtain ⟨k1,k2,k3⟩:=fchk_ok h0
  rw [if_pos h0]
  by_cases h1:askd n m=0
  ·rw [if_pos h1]
   rw [h0,h1] at H3
   rw [h0] at H1
   rw [h1] at H2
   change FnOK _ _ _ (ret1 0) at H3
   by_cases h2:l.length<2
   ·rw [if_pos h2]
    repeat' ((conv=>whnf);first|(with_reducible first|refine br_t ?_|refine br_f ?_|refine za ?_|refine zg ?_|refine zo ?_)|rw [List.length_map]|refine zp ?_|refine zq ?_|(with_reducible first|refine bc (fun h => ?_) (fun h => ?_)|refine zt ?_|refine zf ?_|refine br_i (fun h => ?_) (fun h => ?_)|refine xi (pv_bool fun _=>nev25 _ _ _ _ _ _ _) ?_)|refine zg ?_|refine zi ?_|refine zb ?_|refine zl ?_)
    all_goals conv=>whnf
    all_goals rfl
   ·rw [if_neg h2]
    repeat' ((conv=>whnf);first|(with_reducible first|refine br_t ?_|refine br_f ?_|refine za ?_|refine zg ?_|refine zo ?_)|rw [List.length_map]|refine zp ?_|refine zq ?_|(with_reducible first|refine bc (fun h => ?_) (fun h => ?_)|refine zt ?_|refine zf ?_|refine br_i (fun h => ?_) (fun h => ?_)|refine xi (pv_bool fun _=>nev25 _ _ _ _ _ _ _) ?_)|refine zg ?_|refine zi ?_|refine zb ?_|refine zl ?_)
    all_goals conv=>whnf
    refine loop_frz [40] ?_
    refine loop_J (by kernel_rfl) (ty_okK [40] [] [] []) (σ:=Nat) (fun i=>[(44,sV (.int .i64 i))]) (fun i=>[(40,.row 2 (plcs l n m i) 0)]) (fun i=>i≤l.length) (fun i=>l.length-i) 0 (Nat.zero_le _) ?_ ?_
    ·(conv=>whnf);exact zent
    intro i hi
    have hln:=plcs_len (n:=n) (m:=m) hi
    rcases Nat.lt_or_ge i l.length with hlt|hge
    ·have hel:=pts_get hlt
     have hel2:=plcs_get0 (n:=n) (m:=m) hlt
     have H4:=kAt_fn l[i].id l[i].a l[i].b n m
     rw [(plc_ok (k2 _ (List.getElem_mem hlt)) h1).1] at H4
     simp only [ret3] at H4
     repeat' ((conv=>whnf);first|(with_reducible first|refine br_t ?_|refine br_f ?_|refine za ?_|refine zg ?_|refine zo ?_)|rw [List.length_map]|refine zp ?_|refine zq ?_|(with_reducible first|refine bc (fun h => ?_) (fun h => ?_)|refine zt ?_|refine zf ?_|refine br_i (fun h => ?_) (fun h => ?_)|refine xi (pv_bool fun _=>nev25 _ _ _ _ _ _ _) ?_)|refine zg ?_|refine zi ?_|refine zb ?_|refine zl ?_)
     all_goals conv=>whnf
     refine ⟨i+1,by omega,?_,by omega⟩
     (conv=>whnf);refine ⟨by repeat' (first|with_reducible exact zE0|with_reducible refine zE1 ?_ ?_|rfl|assumption|(exact congrArg (fun x=>some (Blk.row 2 x 0)) (plcs_set hlt))|exact zi1|exact zb1),by repeat' (first|with_reducible exact zH0|with_reducible refine zH1 ?_ ?_|rfl|assumption|(exact congrArg (fun x=>some (Blk.row 2 x 0)) (plcs_set hlt))),rfl⟩
    obtain rfl:i=l.length:=by omega
    repeat' ((conv=>whnf);first|(with_reducible first|refine br_t ?_|refine br_f ?_|refine za ?_|refine zg ?_|refine zo ?_)|rw [List.length_map]|refine zp ?_|refine zq ?_|(with_reducible first|refine bc (fun h => ?_) (fun h => ?_)|refine zt ?_|refine zf ?_|refine br_i (fun h => ?_) (fun h => ?_)|refine xi (pv_bool fun _=>nev25 _ _ _ _ _ _ _) ?_)|refine zg ?_|refine zi ?_|refine zb ?_|refine zl ?_)
    conv=>whnf
    refine loop_J (by kernel_rfl) (ty_okK [40] [] [] []) (σ:=Nat × CSt × Int × Int) (fun z=>[(66,sV (.int .i64 z.1)),(14,sV (.int .i64 z.2.2.1)),(15,sV (.int .i64 z.2.2.2))]) (fun z=>[(16,.own [.d (i64 z.2.1.2.2.1),.d (i64 z.2.1.2.2.2)])])
     (fun z=>z.1≤l.length∧cst l z.2.1 z.2.2.1 z.2.2.2∧outerC n m (l.drop z.1) z.1 z.2.1=pairC l n m) (fun z=>l.length-z.1) (0,(0,0,0,0),0,0) ⟨by omega,.inl ⟨rfl,rfl,rfl,rfl⟩,rfl⟩ ?_ ?_
    ·(conv=>whnf);exact zent
    rintro ⟨a,s,x,y⟩ ⟨g1,g2,g3⟩
    simp only at g1 g2 g3
    rcases Nat.lt_or_ge a l.length with hlt|hge
    ·rw [outerC_lt hlt] at g3
     repeat' ((conv=>whnf);first|(with_reducible first|refine br_t ?_|refine br_f ?_|refine za ?_|refine zg ?_|refine zo ?_)|rw [List.length_map]|refine zp ?_|refine zq ?_|(with_reducible first|refine bc (fun h => ?_) (fun h => ?_)|refine zt ?_|refine zf ?_|refine br_i (fun h => ?_) (fun h => ?_)|refine xi (pv_bool fun _=>nev25 _ _ _ _ _ _ _) ?_)|refine zg ?_|refine zi ?_|refine zb ?_|refine zl ?_)
     conv=>whnf
     refine loop_J (by kernel_rfl) (ty_okK [40] [] [] []) (σ:=Nat × CSt × Int × Int) (fun z=>[(18,sV (.int .i64 z.1)),(14,sV (.int .i64 z.2.2.1)),(15,sV (.int .i64 z.2.2.2))]) (fun z=>[(16,.own [.d (i64 z.2.1.2.2.1),.d (i64 z.2.1.2.2.2)])])
      (fun z=>z.1≤l.length∧cst l z.2.1 z.2.2.1 z.2.2.2∧innerC n m l[a] a (l.drop z.1) z.1 z.2.1=innerC n m l[a] a (l.drop (a+1)) (a+1) s) (fun z=>l.length-z.1) (a+1,s,x,y) ⟨by show _≤_;omega,g2,rfl⟩ ?_ ?_
     ·(conv=>whnf);exact zent
     rintro ⟨b,t,u,v⟩ ⟨f1,f2,f3⟩
     simp only at f1 f2 f3
     rcases Nat.lt_or_ge b l.length with hblt|hbge
     ·have hela:=plcs_get (n:=n) (m:=m) hlt
      have helb:=plcs_get (n:=n) (m:=m) hblt
      have hida:=pts_get hlt
      have hidb:=pts_get hblt
      rw [innerC_lt hblt] at f3
      obtain ⟨c,e1,e2,d1,d2,d3,d4,d5⟩:=dst_ok (k2 _ (List.getElem_mem hlt)) (k2 _ (List.getElem_mem hblt)) h1
      have H4:=sub_fn (plc l[a] n m).1 (plc l[a] n m).2 (plc l[b] n m).1 (plc l[b] n m).2
      rw [e1] at H4
      simp only [ret3] at H4
      have hgd:=fun h=>cgood_upd (n:=n) (m:=m) (s:=t) (a:=a) (b:=b) h k2 h1 hlt hblt
      have key:∀ z w:Int,z=(dst l[a] l[b] n m).1→w=(dst l[a] l[b] n m).2→cgood l t→FnOK Tryz.prog 103 (rat2 z w t.2.2.1 t.2.2.2) (.tup [.one (i64 (cmpN ((dst l[a] l[b] n m).1*t.2.2.2) (t.2.2.1*(dst l[a] l[b] n m).2))),.one (i64 0)]):=by
       rintro z w rfl rfl ht
       have:=cmp_fn (dst l[a] l[b] n m).1 (dst l[a] l[b] n m).2 t.2.2.1 t.2.2.2
       unfold cmpV bth at this
       rw [if_pos (by rw [d1,ht.1];decide)] at this
       exact this
      generalize hx:(dst l[a] l[b] n m).1=X at *
      generalize hy:(dst l[a] l[b] n m).2=Y at *
      rcases e2 with ⟨e2,e3⟩|⟨e2,e3⟩
      ·have hwr:IntKind.i64.wrap (0-c)=X:=by rw [IntWalk.i64_in _ (by omega)];omega
       have key2:=key (IntKind.i64.wrap (0-c)) Y hwr rfl
       rcases f2 with ⟨m1,m2,rfl,rfl⟩|⟨m1,m3,m4,rfl,rfl⟩
       ·have ec:cupd t a b (dst l[a] l[b] n m)=(a,b,X,Y):=by unfold cupd;rw [if_pos (.inl m1),hx,hy]
        have hg:=hgd (.inl m1)
        rw [ec] at f3 hg
        simp only [m1,m2] at *
        repeat' ((conv=>whnf);first|(with_reducible first|refine br_t ?_|refine br_f ?_|refine za ?_|refine zg ?_|refine zo ?_)|rw [List.length_map]|refine zp ?_|refine zq ?_|(with_reducible first|refine bc (fun h => ?_) (fun h => ?_)|refine zt ?_|refine zf ?_|refine br_i (fun h => ?_) (fun h => ?_)|refine xi (pv_bool fun _=>nev25 _ _ _ _ _ _ _) ?_)|refine zg ?_|refine zi ?_|refine zb ?_|refine zl ?_)
        all_goals conv=>whnf
        refine ⟨(b+1,(a,b,X,Y),l[a].id,l[b].id),⟨by show _≤_;omega,.inr ⟨hg,hlt,hblt,rfl,rfl⟩,f3⟩,?_,by show _-_<_-_;omega⟩
        (conv=>whnf);refine ⟨by repeat' (first|with_reducible exact zE0|with_reducible refine zE1 ?_ ?_|rfl|assumption|(exact congrArg (fun z=>some (Blk.own [.d (i64 z),.d (i64 Y)])) hwr)|exact zi1|exact zb1),by repeat' (first|with_reducible exact zH0|with_reducible refine zH1 ?_ ?_|rfl|assumption|(exact congrArg (fun z=>some (Blk.own [.d (i64 z),.d (i64 Y)])) hwr)),rfl⟩
       ·replace key2:=key2 m1
        have hg:=hgd (.inr m1)
        have n1:=m1.2.1
        have n2:=m1.2.2.2.1
        clear key
        by_cases hc:X*t.2.2.2<t.2.2.1*Y
        ·have ec:cupd t a b (dst l[a] l[b] n m)=(a,b,X,Y):=by unfold cupd;rw [hx,hy,if_pos (.inr hc)]
         rw [ec] at f3 hg
         have e9:cmpN (X*t.2.2.2) (t.2.2.1*Y) = -1:=if_pos hc
         rw [e9] at key2
         clear hc e9
         repeat' ((conv=>whnf);first|(with_reducible first|refine br_t ?_|refine br_f ?_|refine za ?_|refine zg ?_|refine zo ?_)|rw [List.length_map]|refine zp ?_|refine zq ?_|(with_reducible first|refine bc (fun h => ?_) (fun h => ?_)|refine zt ?_|refine zf ?_|refine br_i (fun h => ?_) (fun h => ?_)|refine xi (pv_bool fun _=>nev25 _ _ _ _ _ _ _) ?_)|refine zg ?_|refine zi ?_|refine zb ?_|refine zl ?_)
         all_goals conv=>whnf
         refine ⟨(b+1,(a,b,X,Y),l[a].id,l[b].id),⟨by show _≤_;omega,.inr ⟨hg,hlt,hblt,rfl,rfl⟩,f3⟩,?_,by show _-_<_-_;omega⟩
         (conv=>whnf);refine ⟨by repeat' (first|with_reducible exact zE0|with_reducible refine zE1 ?_ ?_|rfl|assumption|(exact congrArg (fun z=>some (Blk.own [.d (i64 z),.d (i64 Y)])) hwr)|exact zi1|exact zb1),by repeat' (first|with_reducible exact zH0|with_reducible refine zH1 ?_ ?_|rfl|assumption|(exact congrArg (fun z=>some (Blk.own [.d (i64 z),.d (i64 Y)])) hwr)),rfl⟩
         ·exfalso;simp only at h;omega
        ·have ec:cupd t a b (dst l[a] l[b] n m)=t:=by unfold cupd;rw [hx,hy,if_neg (by omega)]
         rw [ec] at f3
         have e9:0≤cmpN (X*t.2.2.2) (t.2.2.1*Y):=by unfold cmpN;rw [if_neg hc];split<;>omega
         generalize cmpN (X*t.2.2.2) (t.2.2.1*Y)=cc at key2 e9
         clear hc
         repeat' ((conv=>whnf);first|(with_reducible first|refine br_t ?_|refine br_f ?_|refine za ?_|refine zg ?_|refine zo ?_)|rw [List.length_map]|refine zp ?_|refine zq ?_|(with_reducible first|refine bc (fun h => ?_) (fun h => ?_)|refine zt ?_|refine zf ?_|refine br_i (fun h => ?_) (fun h => ?_)|refine xi (pv_bool fun _=>nev25 _ _ _ _ _ _ _) ?_)|refine zg ?_|refine zi ?_|refine zb ?_|refine zl ?_)
         all_goals conv=>whnf
         refine ⟨(b+1,t,l[t.1].id,l[t.2.1].id),⟨by show _≤_;omega,.inr ⟨m1,m3,m4,rfl,rfl⟩,f3⟩,?_,by show _-_<_-_;omega⟩
         (conv=>whnf);exact zent
         ·exfalso;simp only at h;omega
      ·have hwr:c=X:=by omega
       have key2:=key c Y hwr rfl
       rcases f2 with ⟨m1,m2,rfl,rfl⟩|⟨m1,m3,m4,rfl,rfl⟩
       ·have ec:cupd t a b (dst l[a] l[b] n m)=(a,b,X,Y):=by unfold cupd;rw [if_pos (.inl m1),hx,hy]
        have hg:=hgd (.inl m1)
        rw [ec] at f3 hg
        simp only [m1,m2] at *
        repeat' ((conv=>whnf);first|(with_reducible first|refine br_t ?_|refine br_f ?_|refine za ?_|refine zg ?_|refine zo ?_)|rw [List.length_map]|refine zp ?_|refine zq ?_|(with_reducible first|refine bc (fun h => ?_) (fun h => ?_)|refine zt ?_|refine zf ?_|refine br_i (fun h => ?_) (fun h => ?_)|refine xi (pv_bool fun _=>nev25 _ _ _ _ _ _ _) ?_)|refine zg ?_|refine zi ?_|refine zb ?_|refine zl ?_)
        all_goals conv=>whnf
        refine ⟨(b+1,(a,b,X,Y),l[a].id,l[b].id),⟨by show _≤_;omega,.inr ⟨hg,hlt,hblt,rfl,rfl⟩,f3⟩,?_,by show _-_<_-_;omega⟩
        (conv=>whnf);refine ⟨by repeat' (first|with_reducible exact zE0|with_reducible refine zE1 ?_ ?_|rfl|assumption|(exact congrArg (fun z=>some (Blk.own [.d (i64 z),.d (i64 Y)])) hwr)|exact zi1|exact zb1),by repeat' (first|with_reducible exact zH0|with_reducible refine zH1 ?_ ?_|rfl|assumption|(exact congrArg (fun z=>some (Blk.own [.d (i64 z),.d (i64 Y)])) hwr)),rfl⟩
       ·replace key2:=key2 m1
        have hg:=hgd (.inr m1)
        have n1:=m1.2.1
        have n2:=m1.2.2.2.1
        clear key
        by_cases hc:X*t.2.2.2<t.2.2.1*Y
        ·have ec:cupd t a b (dst l[a] l[b] n m)=(a,b,X,Y):=by unfold cupd;rw [hx,hy,if_pos (.inr hc)]
         rw [ec] at f3 hg
         have e9:cmpN (X*t.2.2.2) (t.2.2.1*Y) = -1:=if_pos hc
         rw [e9] at key2
         clear hc e9
         repeat' ((conv=>whnf);first|(with_reducible first|refine br_t ?_|refine br_f ?_|refine za ?_|refine zg ?_|refine zo ?_)|rw [List.length_map]|refine zp ?_|refine zq ?_|(with_reducible first|refine bc (fun h => ?_) (fun h => ?_)|refine zt ?_|refine zf ?_|refine br_i (fun h => ?_) (fun h => ?_)|refine xi (pv_bool fun _=>nev25 _ _ _ _ _ _ _) ?_)|refine zg ?_|refine zi ?_|refine zb ?_|refine zl ?_)
         all_goals conv=>whnf
         refine ⟨(b+1,(a,b,X,Y),l[a].id,l[b].id),⟨by show _≤_;omega,.inr ⟨hg,hlt,hblt,rfl,rfl⟩,f3⟩,?_,by show _-_<_-_;omega⟩
         (conv=>whnf);refine ⟨by repeat' (first|with_reducible exact zE0|with_reducible refine zE1 ?_ ?_|rfl|assumption|(exact congrArg (fun z=>some (Blk.own [.d (i64 z),.d (i64 Y)])) hwr)|exact zi1|exact zb1),by repeat' (first|with_reducible exact zH0|with_reducible refine zH1 ?_ ?_|rfl|assumption|(exact congrArg (fun z=>some (Blk.own [.d (i64 z),.d (i64 Y)])) hwr)),rfl⟩
         ·exfalso;simp only at h;omega
        ·have ec:cupd t a b (dst l[a] l[b] n m)=t:=by unfold cupd;rw [hx,hy,if_neg (by omega)]
         rw [ec] at f3
         have e9:0≤cmpN (X*t.2.2.2) (t.2.2.1*Y):=by unfold cmpN;rw [if_neg hc];split<;>omega
         generalize cmpN (X*t.2.2.2) (t.2.2.1*Y)=cc at key2 e9
         clear hc
         repeat' ((conv=>whnf);first|(with_reducible first|refine br_t ?_|refine br_f ?_|refine za ?_|refine zg ?_|refine zo ?_)|rw [List.length_map]|refine zp ?_|refine zq ?_|(with_reducible first|refine bc (fun h => ?_) (fun h => ?_)|refine zt ?_|refine zf ?_|refine br_i (fun h => ?_) (fun h => ?_)|refine xi (pv_bool fun _=>nev25 _ _ _ _ _ _ _) ?_)|refine zg ?_|refine zi ?_|refine zb ?_|refine zl ?_)
         all_goals conv=>whnf
         refine ⟨(b+1,t,l[t.1].id,l[t.2.1].id),⟨by show _≤_;omega,.inr ⟨m1,m3,m4,rfl,rfl⟩,f3⟩,?_,by show _-_<_-_;omega⟩
         (conv=>whnf);exact zent
         ·exfalso;simp only at h;omega
     ·rw [innerC_ge hbge] at f3
      rw [← f3] at g3
      repeat' ((conv=>whnf);first|(with_reducible first|refine br_t ?_|refine br_f ?_|refine za ?_|refine zg ?_|refine zo ?_)|rw [List.length_map]|refine zp ?_|refine zq ?_|(with_reducible first|refine bc (fun h => ?_) (fun h => ?_)|refine zt ?_|refine zf ?_|refine br_i (fun h => ?_) (fun h => ?_)|refine xi (pv_bool fun _=>nev25 _ _ _ _ _ _ _) ?_)|refine zg ?_|refine zi ?_|refine zb ?_|refine zl ?_)
      all_goals conv=>whnf
      refine ⟨(a+1,t,u,v),⟨by show _≤_;omega,f2,g3⟩,?_,by show _-_<_-_;omega⟩
      (conv=>whnf);exact zent
    ·rw [outerC_ge hge] at g3
     rw [← g3]
     rcases g2 with g2|⟨g2,g4,g5,rfl,rfl⟩
     ·exfalso
      have:=pairC_ok k2 h1 (by omega)
      rw [← g3] at this
      obtain ⟨_,_,_⟩:=this
      omega
     rw [List.getElem?_eq_getElem g4,List.getElem?_eq_getElem g5]
     repeat' ((conv=>whnf);first|(with_reducible first|refine br_t ?_|refine br_f ?_|refine za ?_|refine zg ?_|refine zo ?_)|rw [List.length_map]|refine zp ?_|refine zq ?_|(with_reducible first|refine bc (fun h => ?_) (fun h => ?_)|refine zt ?_|refine zf ?_|refine br_i (fun h => ?_) (fun h => ?_)|refine xi (pv_bool fun _=>nev25 _ _ _ _ _ _ _) ?_)|refine zg ?_|refine zi ?_|refine zb ?_|refine zl ?_)
     all_goals conv=>whnf
     all_goals rfl
  ·rw [if_neg h1]
   rw [h0] at H3 H1
   change FnOK _ _ _ (ret1 (askd n m)) at H3
   generalize askd n m=z at *
   repeat' ((conv=>whnf);first|(with_reducible first|refine br_t ?_|refine br_f ?_|refine za ?_|refine zg ?_|refine zo ?_)|rw [List.length_map]|refine zp ?_|refine zq ?_|(with_reducible first|refine bc (fun h => ?_) (fun h => ?_)|refine zt ?_|refine zf ?_|refine br_i (fun h => ?_) (fun h => ?_)|refine xi (pv_bool fun _=>nev25 _ _ _ _ _ _ _) ?_)|refine zg ?_|refine zi ?_|refine zb ?_|refine zl ?_)
   all_goals conv=>whnf
   all_goals rfl
 ·rw [if_neg h0]
  have e:orN (fchk l) (askd n m)=fchk l:=if_neg h0
  rw [e] at H3
  repeat' ((conv=>whnf);first|(with_reducible first|refine br_t ?_|refine br_f ?_|refine za ?_|refine zg ?_|refine zo ?_)|rw [List.length_map]|refine zp ?_|refine zq ?_|(with_reducible first|refine bc (fun h => ?_) (fun h => ?_)|refine zt ?_|refine zf ?_|refine br_i (fun h => ?_) (fun h => ?_)|refine xi (pv_bool fun _=>nev25 _ _ _ _ _ _ _) ?_)|refine zg ?_|refine zi ?_|refine zb ?_|refine zl ?_)
  all_goals conv=>whnf
  all_goals rfl
end Go.Proofs.YtfkfficabeclcaaGreatDoor

namespace Go.Proofs.YtfkfficabeclcaaGreatDoor
open Go.RowKit Go.Sort Sx
end Go.Proofs.YtfkfficabeclcaaGreatDoor

namespace Go.Proofs.YtfkfficabeclcaaGreatDoor
open Go Go.RowKit Go.Sort Sx
set_option maxRecDepth 2000
def ldP (l:List Pt) (n m:Int):Pt:=(srt n m l)[0]?.getD default
def askV (m:Md) (a:Ak):Md × Rp :=
 if formV a then
  (if a.k=1 then (if (putV m.l a.p).2=0 then (⟨m.n,m.d,(putV m.l a.p).1⟩,rp0) else (m,rpE (putV m.l a.p).2))
  else if a.k=2 then (if (takeV m.l a.id).2=0 then (⟨m.n,m.d,(takeV m.l a.id).1⟩,rp0) else (m,rpE (takeV m.l a.id).2))
  else if a.k=3 then (if (changeV m.l a.p).2=0 then (⟨m.n,m.d,(changeV m.l a.p).1⟩,rp0) else (m,rpE (changeV m.l a.p).2))
  else if a.k=4 then (if askd a.n a.d=0 then (if a.n*m.d≤m.n*a.d then (m,rpE 44) else (⟨a.n,a.d,m.l⟩,⟨0,0,0,0,0,btw (allM m.l) m.n m.d a.n a.d⟩)) else (m,rpE (askd a.n a.d)))
  else if a.k=5 then (if m.l.length=0 then (m,rpE 42) else (m,⟨0,(ldP m.l m.n m.d).id,0,(plc (ldP m.l m.n m.d) m.n m.d).1,(plc (ldP m.l m.n m.d) m.n m.d).2,[]⟩))
  else (m,⟨(closV m.l m.n m.d).2.2.2.2,(closV m.l m.n m.d).1,(closV m.l m.n m.d).2.1,(closV m.l m.n m.d).2.2.1,(closV m.l m.n m.d).2.2.2.1,[]⟩))
 else (m,rpE 12)
abbrev retA (x:Md × Rp):DV:=.tup [x.1.dc,x.2.dc]
end Go.Proofs.YtfkfficabeclcaaGreatDoor

namespace Go.Proofs.YtfkfficabeclcaaGreatDoor
open Go Go.RowKit Go.Sort Sx
structure InsO (L0:List Mt) (i:Nat) (L:List Mt):Prop where
 p:L.Perm L0
 o:∀ a b (h:a<b) (hb:b<L.length),b<i→¬ mlt L[b] L[a]
structure InsI (L0:List Mt) (i k:Nat) (L:List Mt):Prop where
 p:L.Perm L0
 hk:k≤i
 hi:i<L.length
 o:∀ a b (h:a<b) (hb:b<L.length),b≤i→b≠k→¬ mlt L[b] L[a]
def swp (L:List Mt) (k:Nat) (h:k<L.length):List Mt:=(L.set k L[k-1]).set (k-1) L[k]
theorem swp_len {L:List Mt} {k:Nat} (h:k<L.length):(swp L k h).length=L.length:=by simp [swp]
theorem swp_get {L:List Mt} {k:Nat} (h:k<L.length) (h0:0<k) {b:Nat} (hb:b<(swp L k h).length) :
  (swp L k h)[b]=if b=k-1 then L[k] else if b=k then L[k-1] else L[b]'(by rw [swp_len] at hb;exact hb):=by
 simp only [swp,List.getElem_set,eq_comm (b:=b)]
theorem swap_at {x y:Mt} {l r:List Mt}:(l++y::x::r).Perm (l++x::y::r):=List.Perm.append_left l (List.Perm.swap ..)
theorem swp_perm {L:List Mt} {k:Nat} (h:k<L.length) (h0:0<k):(swp L k h).Perm L:=by
 obtain ⟨j,rfl⟩:∃ j,k=j+1:=⟨k-1,by omega⟩
 have e1:L=L.take j++L[j]::L[j+1]::L.drop (j+2):=by
  rw [← List.drop_eq_getElem_cons h,← List.drop_eq_getElem_cons (by omega),List.take_append_drop]
 have e2:swp L (j+1) h=L.take j++L[j+1]::L[j]::L.drop (j+2):=by
  refine List.ext_getElem (by rw [swp_len];simp;omega) fun b h1 h2 => ?_
  rw [swp_get h h0]
  rw [swp_len] at h1
  simp only [Nat.add_sub_cancel]
  rcases Nat.lt_trichotomy b j with c|c|c
  ·rw [if_neg (by omega),if_neg (by omega),List.getElem_append_left (by simp;omega),List.getElem_take]
  ·subst c
   have hm:min b L.length=b:=Nat.min_eq_left (by omega)
   rw [if_pos rfl,List.getElem_append_right (by rw [List.length_take];omega)]
   simp only [List.length_take,hm,Nat.sub_self,List.getElem_cons_zero]
  ·rw [if_neg (by omega),List.getElem_append_right (by simp;omega)]
   by_cases c1:b=j+1
   ·subst c1
    have key:∀ q,q=1→∀ (hq:q<(L[j+1]::L[j]::List.drop (j+2) L).length),(L[j+1]::L[j]::List.drop (j+2) L)[q]=L[j]:=by rintro _ rfl _;rfl
    rw [if_pos rfl]
    exact (key _ (by rw [List.length_take];omega) _).symm
   ·obtain ⟨d,rfl⟩:∃ d,b=j+(d+2):=⟨b-j-2,by omega⟩
    rw [if_neg c1]
    simp only [List.length_take,Nat.min_eq_left (show j≤L.length by omega),Nat.add_sub_cancel_left,List.getElem_cons_succ,List.getElem_drop]
    exact getElem_congr rfl (by omega) _
 rw [e2]
 conv=>rhs;rw [e1]
 exact swap_at
theorem InsI.start {L0 L:List Mt} {i:Nat} (H:InsO L0 i L) (h:i<L.length):InsI L0 i i L:=⟨H.p,Nat.le_refl _,h,fun a b h hb h1 h2=>H.o a b h hb (by omega)⟩
theorem InsI.next {L0 L:List Mt} {i k:Nat} (H:InsI L0 i k L) (h0:0<k) (hl:mlt (L[k]'(Nat.lt_of_le_of_lt H.hk H.hi)) (L[k-1]'(by have:=H.hk;have:=H.hi;omega))):InsI L0 i (k-1) (swp L k (Nat.lt_of_le_of_lt H.hk H.hi)):=by
 have hk:=H.hk
 have hi:=H.hi
 refine ⟨(List.Perm.trans ?_ H.p),by omega,by rw [swp_len];exact hi,fun a b h hb h1 h2 => ?_⟩
 ·exact swp_perm _ h0
 ·have hb':=hb
  rw [swp_len] at hb'
  rw [swp_get _ h0,swp_get _ h0]
  rw [if_neg h2]
  by_cases c1:b=k
  ·rw [if_pos c1]
   by_cases c2:a=k-1
   ·rw [if_pos c2];exact fun h=>mlt_asymm h hl
   ·rw [if_neg c2,if_neg (by omega)]
    exact H.o a (k-1) (by omega) (by omega) (by omega) (by omega)
  ·rw [if_neg c1]
   by_cases c2:a=k-1
   ·rw [if_pos c2]
    exact H.o k b (by omega) hb' h1 c1
   ·rw [if_neg c2]
    by_cases c3:a=k
    ·rw [if_pos c3]
     exact H.o (k-1) b (by omega) hb' h1 c1
    ·rw [if_neg c3]
     exact H.o a b h hb' h1 c1
theorem InsO.done {L0 L:List Mt} {i:Nat} (H:InsO L0 i L) (hok:∀ m∈L0,chk m.n m.d=0) (hi:L.length≤i):L=msrt L0:=by
 refine List.Perm.eq_of_pairwise (le:=fun a b=>¬ mlt b a) (fun a b ha hb h1 h2 => ?_) ?_ (msrt_sorted L0) (H.p.trans (msrt_perm L0).symm)
 ·exact mlt_eq (hok a (H.p.mem_iff.1 ha)) (hok b (msrt_mem.1 hb)) h2 h1
 ·exact List.pairwise_iff_getElem.2 fun a b ha hb h=>H.o a b h hb (by omega)
end Go.Proofs.YtfkfficabeclcaaGreatDoor

namespace Go.Proofs.YtfkfficabeclcaaGreatDoor
open Go Go.RowKit Go.Sort Sx
theorem wd_mts {l:List Mt} (h:WD (mts l)):l.length≤9223372036854775807:=by
 obtain ⟨h1,_,h3⟩:=WD_list.1 h
 simpa using h1
theorem Mt.eq_iff {p q:Mt}:p=q↔p.n=q.n∧p.d=q.d∧p.i=q.i∧p.j=q.j:=by
 cases p;cases q;simp
theorem eqMt_fn (a b:List Mt):FnOK Tryz.prog 82 [.one (mts a),.one (mts b)] (.c (.one (bol (decide (a=b))))):=by
 refine fn_ok (by kernel_rfl) ty_ok Tryz.func82 rfl (fun _ _=>Tryz.call82 _ _) rfl ?_
 intro hw
 simp only [WDCs,WDC,WDs] at hw
 have w1:=wd_mts hw.1
 have w2:=wd_mts hw.2.1
 clear hw
 by_cases h0:a.length=b.length
 ·repeat' ((conv=>whnf);first|(with_reducible first|refine br_t ?_|refine br_f ?_|refine za ?_|refine zg ?_)|rw [List.length_map]|refine zp ?_|refine zq ?_|(with_reducible first|refine bc (fun h => ?_) (fun h => ?_)|refine zt ?_|refine zf ?_|refine br_i (fun h => ?_) (fun h => ?_)|refine xi (pv_bool fun _=>nev31 _ _ _ _ _ _ _ _ _ _ _) ?_)|refine zg ?_|refine zi ?_|refine zb ?_)
  refine loop_J (by kernel_rfl) ty_ok (σ:=Nat) (fun i=>[(13,sV (.int .i64 i))]) (fun _=>[]) (fun i=>i≤a.length∧a.take i=b.take i) (fun i=>a.length-i) 0 ⟨by omega,rfl⟩ ?_ ?_
  ·(conv=>whnf);exact zent
  rintro i ⟨hi,hI⟩
  rcases Nat.lt_or_ge i a.length with hlt|hge
  ·have hb:i<b.length:=by omega
   have he1:=mts_get hlt
   have he2:=mts_get hb
   by_cases hc:a[i]=b[i]
   ·have hq:=Mt.eq_iff.1 hc
    repeat' ((conv=>whnf);first|(with_reducible first|refine br_t ?_|refine br_f ?_|refine za ?_|refine zg ?_)|rw [List.length_map]|refine zp ?_|refine zq ?_|(with_reducible first|refine bc (fun h => ?_) (fun h => ?_)|refine zt ?_|refine zf ?_|refine br_i (fun h => ?_) (fun h => ?_)|refine xi (pv_bool fun _=>nev31 _ _ _ _ _ _ _ _ _ _ _) ?_)|refine zg ?_|refine zi ?_|refine zb ?_)
    all_goals conv=>whnf
    refine ⟨i+1,⟨by omega,take_succ_eq hI hlt hb hc⟩,?_,by omega⟩
    (conv=>whnf);exact zent
   ·have hq:=mt Mt.eq_iff.2 hc
    rw [decide_eq_false (ne_of_get hlt hb hc)]
    repeat' ((conv=>whnf);first|(with_reducible first|refine br_t ?_|refine br_f ?_|refine za ?_|refine zg ?_)|rw [List.length_map]|refine zp ?_|refine zq ?_|(with_reducible first|refine bc (fun h => ?_) (fun h => ?_)|refine zt ?_|refine zf ?_|refine br_i (fun h => ?_) (fun h => ?_)|refine xi (pv_bool fun _=>nev31 _ _ _ _ _ _ _ _ _ _ _) ?_)|refine zg ?_|refine zi ?_|refine zb ?_)
    all_goals conv=>whnf
    all_goals rfl
  ·rw [decide_eq_true (take_all_eq hI h0 hge)]
   repeat' ((conv=>whnf);first|(with_reducible first|refine br_t ?_|refine br_f ?_|refine za ?_|refine zg ?_)|rw [List.length_map]|refine zp ?_|refine zq ?_|(with_reducible first|refine bc (fun h => ?_) (fun h => ?_)|refine zt ?_|refine zf ?_|refine br_i (fun h => ?_) (fun h => ?_)|refine xi (pv_bool fun _=>nev31 _ _ _ _ _ _ _ _ _ _ _) ?_)|refine zg ?_|refine zi ?_|refine zb ?_)
   all_goals conv=>whnf
   all_goals rfl
 ·rw [decide_eq_false (fun h=>h0 (congrArg List.length h))]
  repeat' ((conv=>whnf);first|(with_reducible first|refine br_t ?_|refine br_f ?_|refine za ?_|refine zg ?_)|rw [List.length_map]|refine zp ?_|refine zq ?_|(with_reducible first|refine bc (fun h => ?_) (fun h => ?_)|refine zt ?_|refine zf ?_|refine br_i (fun h => ?_) (fun h => ?_)|refine xi (pv_bool fun _=>nev31 _ _ _ _ _ _ _ _ _ _ _) ?_)|refine zg ?_|refine zi ?_|refine zb ?_)
  all_goals conv=>whnf
  all_goals rfl
theorem rmSame_fn (a b:List Mt):FnOK Tryz.prog 53 [.one (mts a),.one (mts b)] (.c (.one (bol (decide (a=b))))):=by
 refine fn_ok (by kernel_rfl) ty_ok Tryz.func53 rfl (fun _ _=>Tryz.call53 _ _) rfl ?_
 intro hw
 simp only [WDCs,WDC,WDs] at hw
 have w1:=wd_mts hw.1
 have w2:=wd_mts hw.2.1
 clear hw
 by_cases h0:a.length=b.length
 ·repeat' ((conv=>whnf);first|(with_reducible first|refine br_t ?_|refine br_f ?_|refine za ?_|refine zg ?_)|rw [List.length_map]|refine zp ?_|refine zq ?_|(with_reducible first|refine bc (fun h => ?_) (fun h => ?_)|refine zt ?_|refine zf ?_|refine br_i (fun h => ?_) (fun h => ?_)|refine xi (pv_bool fun _=>nev31 _ _ _ _ _ _ _ _ _ _ _) ?_)|refine zg ?_|refine zi ?_|refine zb ?_)
  refine loop_J (by kernel_rfl) ty_ok (σ:=Nat) (fun i=>[(5,sV (.int .i64 i))]) (fun _=>[]) (fun i=>i≤a.length∧a.take i=b.take i) (fun i=>a.length-i) 0 ⟨by omega,rfl⟩ ?_ ?_
  ·(conv=>whnf);exact zent
  rintro i ⟨hi,hI⟩
  rcases Nat.lt_or_ge i a.length with hlt|hge
  ·have hb:i<b.length:=by omega
   have he1:=mts_get hlt
   have he2:=mts_get hb
   by_cases hc:a[i]=b[i]
   ·have hq:=Mt.eq_iff.1 hc
    repeat' ((conv=>whnf);first|(with_reducible first|refine br_t ?_|refine br_f ?_|refine za ?_|refine zg ?_)|rw [List.length_map]|refine zp ?_|refine zq ?_|(with_reducible first|refine bc (fun h => ?_) (fun h => ?_)|refine zt ?_|refine zf ?_|refine br_i (fun h => ?_) (fun h => ?_)|refine xi (pv_bool fun _=>nev31 _ _ _ _ _ _ _ _ _ _ _) ?_)|refine zg ?_|refine zi ?_|refine zb ?_)
    all_goals conv=>whnf
    refine ⟨i+1,⟨by omega,take_succ_eq hI hlt hb hc⟩,?_,by omega⟩
    (conv=>whnf);exact zent
   ·have hq:=mt Mt.eq_iff.2 hc
    rw [decide_eq_false (ne_of_get hlt hb hc)]
    repeat' ((conv=>whnf);first|(with_reducible first|refine br_t ?_|refine br_f ?_|refine za ?_|refine zg ?_)|rw [List.length_map]|refine zp ?_|refine zq ?_|(with_reducible first|refine bc (fun h => ?_) (fun h => ?_)|refine zt ?_|refine zf ?_|refine br_i (fun h => ?_) (fun h => ?_)|refine xi (pv_bool fun _=>nev31 _ _ _ _ _ _ _ _ _ _ _) ?_)|refine zg ?_|refine zi ?_|refine zb ?_)
    all_goals conv=>whnf
    all_goals rfl
  ·rw [decide_eq_true (take_all_eq hI h0 hge)]
   repeat' ((conv=>whnf);first|(with_reducible first|refine br_t ?_|refine br_f ?_|refine za ?_|refine zg ?_)|rw [List.length_map]|refine zp ?_|refine zq ?_|(with_reducible first|refine bc (fun h => ?_) (fun h => ?_)|refine zt ?_|refine zf ?_|refine br_i (fun h => ?_) (fun h => ?_)|refine xi (pv_bool fun _=>nev31 _ _ _ _ _ _ _ _ _ _ _) ?_)|refine zg ?_|refine zi ?_|refine zb ?_)
   all_goals conv=>whnf
   all_goals rfl
 ·rw [decide_eq_false (fun h=>h0 (congrArg List.length h))]
  repeat' ((conv=>whnf);first|(with_reducible first|refine br_t ?_|refine br_f ?_|refine za ?_|refine zg ?_)|rw [List.length_map]|refine zp ?_|refine zq ?_|(with_reducible first|refine bc (fun h => ?_) (fun h => ?_)|refine zt ?_|refine zf ?_|refine br_i (fun h => ?_) (fun h => ?_)|refine xi (pv_bool fun _=>nev31 _ _ _ _ _ _ _ _ _ _ _) ?_)|refine zg ?_|refine zi ?_|refine zb ?_)
  all_goals conv=>whnf
  all_goals rfl
end Go.Proofs.YtfkfficabeclcaaGreatDoor

namespace Go.Proofs.YtfkfficabeclcaaGreatDoor
open Go Go.RowKit Go.Sort Sx
end Go.Proofs.YtfkfficabeclcaaGreatDoor

namespace Go.Proofs.YtfkfficabeclcaaGreatDoor
open Go Go.RowKit Go.Sort Sx
end Go.Proofs.YtfkfficabeclcaaGreatDoor

namespace Go.Proofs.YtfkfficabeclcaaGreatDoor
open Go Go.RowKit Go.Sort Sx
set_option maxRecDepth 2000
theorem Rp.eq_iff {p q:Rp}:p=q↔p.e=q.e∧p.i=q.i∧p.j=q.j∧(p.n=q.n∧p.d=q.d)∧p.ms=q.ms:=by
 cases p;cases q;simp [and_assoc]
abbrev retD (x:Md × Rp × Int):DV:=.tup [x.1.dc,x.2.1.dc,.one (i64 x.2.2)]
theorem oSame_fn (a b:Rp):FnOK Tryz.prog 42 [a.dc,b.dc] (.c (.one (bol (decide (a=b))))):=by
 have H:=eqMt_fn a.ms b.ms
 have e:=Rp.eq_iff (p:=a) (q:=b)
 by_cases c:a.ms=b.ms
 ·rw [decide_eq_true c] at H
  simp only [c,and_true] at e
  refine fn_ok (by kernel_rfl) ty_ok Tryz.func42 rfl (fun _ _=>Tryz.call42 _ _) rfl ?_
  intro hw
  clear hw
  repeat' ((conv=>whnf);first|(with_reducible first|refine br_t ?_|refine br_f ?_|refine za ?_|refine zg ?_)|refine zp ?_|refine zq ?_|(with_reducible first|refine bc (fun h => ?_) (fun h => ?_)|refine zt ?_|refine zf ?_|refine br_i (fun h => ?_) (fun h => ?_)|refine xi (pv_bool fun _=>eqv25 _ _ _ _ _ _ _) ?_)|refine zg ?_|refine zi ?_|refine zb ?_)
  all_goals conv=>whnf
  all_goals
   refine r_bool ?_
   rw [Bool.eq_iff_iff]
   rw [decide_eq_true_eq,e]
   first|(refine iff_of_true rfl ?_;omega)|(refine iff_of_false (by decide) ?_;omega)
 ·rw [decide_eq_false c] at H
  simp only [c,and_false,iff_false] at e
  rw [decide_eq_false e]
  refine fn_ok (by kernel_rfl) ty_ok Tryz.func42 rfl (fun _ _=>Tryz.call42 _ _) rfl ?_
  intro hw
  clear hw
  repeat' ((conv=>whnf);first|(with_reducible first|refine br_t ?_|refine br_f ?_|refine za ?_|refine zg ?_)|refine zp ?_|refine zq ?_|(with_reducible first|refine bc (fun h => ?_) (fun h => ?_)|refine zt ?_|refine zf ?_|refine br_i (fun h => ?_) (fun h => ?_)|refine xi (pv_bool fun _=>eqv25 _ _ _ _ _ _ _) ?_)|refine zg ?_|refine zi ?_|refine zb ?_)
  all_goals conv=>whnf
  all_goals rfl
theorem roSame_fn (a b:Rp):FnOK Tryz.prog 19 [a.dc,b.dc] (.c (.one (bol (decide (a=b))))):=by
 have H:=rmSame_fn a.ms b.ms
 have e:=Rp.eq_iff (p:=a) (q:=b)
 by_cases c:a.ms=b.ms
 ·rw [decide_eq_true c] at H
  simp only [c,and_true] at e
  refine fn_ok (by kernel_rfl) ty_ok Tryz.func19 rfl (fun _ _=>Tryz.call19 _ _) rfl ?_
  intro hw
  clear hw
  repeat' ((conv=>whnf);first|(with_reducible first|refine br_t ?_|refine br_f ?_|refine za ?_|refine zg ?_)|refine zp ?_|refine zq ?_|(with_reducible first|refine bc (fun h => ?_) (fun h => ?_)|refine zt ?_|refine zf ?_|refine br_i (fun h => ?_) (fun h => ?_)|refine xi (pv_bool fun _=>eqv25 _ _ _ _ _ _ _) ?_)|refine zg ?_|refine zi ?_|refine zb ?_)
  all_goals conv=>whnf
  all_goals
   refine r_bool ?_
   rw [Bool.eq_iff_iff]
   rw [decide_eq_true_eq,e]
   first|(refine iff_of_true rfl ?_;omega)|(refine iff_of_false (by decide) ?_;omega)
 ·rw [decide_eq_false c] at H
  simp only [c,and_false,iff_false] at e
  rw [decide_eq_false e]
  refine fn_ok (by kernel_rfl) ty_ok Tryz.func19 rfl (fun _ _=>Tryz.call19 _ _) rfl ?_
  intro hw
  clear hw
  repeat' ((conv=>whnf);first|(with_reducible first|refine br_t ?_|refine br_f ?_|refine za ?_|refine zg ?_)|refine zp ?_|refine zq ?_|(with_reducible first|refine bc (fun h => ?_) (fun h => ?_)|refine zt ?_|refine zf ?_|refine br_i (fun h => ?_) (fun h => ?_)|refine xi (pv_bool fun _=>eqv25 _ _ _ _ _ _ _) ?_)|refine zg ?_|refine zi ?_|refine zb ?_)
  all_goals conv=>whnf
  all_goals rfl
end Go.Proofs.YtfkfficabeclcaaGreatDoor

namespace Go.Proofs.YtfkfficabeclcaaGreatDoor
open Go Go.RowKit Go.Sort Sx
set_option maxRecDepth 2000
end Go.Proofs.YtfkfficabeclcaaGreatDoor

namespace Go.Proofs.YtfkfficabeclcaaGreatDoor
open Go Go.RowKit Go.Sort Sx
set_option maxRecDepth 2000
def nmd (i:Int):Bool:=decide (0≤i) && decide (i≤65535)
def mOk (m:Mt):Bool:=decide (chk m.n m.d=0) && (decide (0≤m.i) && (decide (m.i<m.j) && decide (m.j≤65535)))
def mRun:Option Mt→List Mt→Bool
 | _,[]=>true
 | none,m::r=>mOk m && mRun (some m) r
 | some p,m::r=>mOk m && decide (cfM p m<0) && mRun (some m) r
def mtR (l:List Mt):Bool:=mRun none l && decide (l.length≤2016)
def rchk (r:Rp):Int :=
 if r.e≠0 then (if 1≤r.e∧r.e≤99∧r=rpE r.e then 0 else 8)
 else if r.ms≠[] then (if mtR r.ms=true∧r=⟨0,0,0,0,0,r.ms⟩ then 0 else 8)
 else if r.d≠0 then (if chk r.n r.d=0∧nmd r.i=true∧(r.j=0∨r.i<r.j∧nmd r.j=true∧0≤r.n) then 0 else 8)
 else (if r=rp0 then 0 else 8)
theorem rchk_08 (r:Rp):rchk r=0∨rchk r=8:=by
 unfold rchk
 repeat' split
 all_goals first|exact .inl rfl|exact .inr rfl
def prev (l:List Mt) (i:Nat):Option Mt:=if i=0 then none else l[i-1]?
theorem mRun_drop {l:List Mt} {i:Nat} (h:i<l.length):mRun (prev l i) (l.drop i)=(mOk l[i] && (decide (i=0) || (match l[i-1]? with|some p=>decide (cfM p l[i]<0)|none=>true)) && mRun (prev l (i+1)) (l.drop (i+1))):=by
 have e1:l.drop i=l[i]::l.drop (i+1):=List.drop_eq_getElem_cons h
 have e2:prev l (i+1)=some l[i]:=by unfold prev;rw [if_neg (by omega),Nat.add_sub_cancel,List.getElem?_eq_getElem h]
 rw [e1,e2]
 unfold prev
 by_cases h0:i=0
 ·subst h0
  simp [mRun]
 ·rw [if_neg h0,List.getElem?_eq_getElem (show i-1<l.length by omega),mRun]
  simp [h0]
theorem tnamed_fn (i:Int):FnOK Tryz.prog 41 [.one (i64 i)] (.c (.one (bol (nmd i)))):=by
 unfold nmd
 refine fn_ok (by kernel_rfl) ty_ok Tryz.func41 rfl (fun _ _=>Tryz.call41 _ _) rfl ?_
 intro hw
 clear hw
 repeat' ((conv=>whnf);first|(with_reducible first|refine br_t ?_|refine br_f ?_|refine za ?_|refine zg ?_)|refine zp ?_|refine zq ?_|(with_reducible first|refine bc (fun h => ?_) (fun h => ?_)|refine zt ?_|refine zf ?_|refine br_i (fun h => ?_) (fun h => ?_))|refine zg ?_|refine zi ?_|refine zb ?_)
 all_goals conv=>whnf
 all_goals first|rfl|exact r_bool (by simp;omega)
theorem tbefore_fn {a b:Mt} (h1:chk a.n a.d=0) (h2:chk b.n b.d=0):FnOK Tryz.prog 79 [a.dc,b.dc] (ret1 (cfM a b)):=by
 have H:=(cmp_fnd a.n a.d b.n b.d).ok
 unfold cmpV bth at H
 rw [if_pos (by rw [h1,if_pos rfl,h2])] at H
 simp only [ret2] at H
 have H2:=(cmpint_fnd a.i b.i).ok
 have H3:=(cmpint_fnd a.j b.j).ok
 unfold cfM
 have H4:=(cmporL_fnd [cmpN (a.n*b.d) (b.n*a.d),cmpN a.i b.i,cmpN a.j b.j] (by simp)).ok
 generalize orL [cmpN (a.n*b.d) (b.n*a.d),cmpN a.i b.i,cmpN a.j b.j]=z at *
 generalize cmpN (a.n*b.d) (b.n*a.d)=x at *
 generalize cmpN a.i b.i=y at *
 generalize cmpN a.j b.j=u at *
 change FnOK _ _ [.one (.list 1 [[i64 x],[i64 y],[i64 u]])] _ at H4
 refine fn_ok (by kernel_rfl) ty_ok Tryz.func79 rfl (fun _ _=>Tryz.call79 _ _) rfl ?_
 intro hw
 clear hw
 exact zw
end Go.Proofs.YtfkfficabeclcaaGreatDoor

namespace Go.Proofs.YtfkfficabeclcaaGreatDoor
open Go Go.RowKit Go.Sort Sx
set_option maxRecDepth 2000
theorem mOk_i {m:Mt}:mOk m=true↔chk m.n m.d=0∧0≤m.i∧m.i<m.j∧m.j≤65535:=by
 unfold mOk
 simp only [Bool.and_eq_true,decide_eq_true_eq]
theorem mRun_at {l:List Mt} {i:Nat} (h:i<l.length):(mRun (prev l i) (l.drop i)=false∧mOk l[i]=false) ∨
  (mOk l[i]=true∧mRun (prev l i) (l.drop i)=false∧∃ h0:0<i,¬ cfM (l[i-1]'(by omega)) l[i]<0)∨(mOk l[i]=true∧mRun (prev l i) (l.drop i)=mRun (prev l (i+1)) (l.drop (i+1))∧(∀ h0:0<i,cfM (l[i-1]'(by omega)) l[i]<0)):=by
 rw [mRun_drop h]
 by_cases h1:mOk l[i]=true
 ·rcases Nat.eq_zero_or_pos i with h0|h0
  ·refine .inr (.inr ⟨h1,?_,fun h=>by omega⟩)
   rw [h1]
   simp [h0]
  ·rw [List.getElem?_eq_getElem (show i-1<l.length by omega)]
   have e0:decide (i=0)=false:=decide_eq_false (by omega)
   by_cases h2:cfM (l[i-1]'(by omega)) l[i]<0
   ·refine .inr (.inr ⟨h1,?_,fun _=>h2⟩)
    rw [h1,e0]
    simp [h2]
   ·refine .inr (.inl ⟨h1,?_,h0,h2⟩)
    rw [h1,e0]
    simp [h2]
 ·refine .inl ⟨?_,by simpa using h1⟩
  rw [show mOk l[i]=false by simpa using h1]
  rfl
set_option maxRecDepth 100000 in
set_option maxHeartbeats 4000000 in
theorem tmeetings_fn (l:List Mt) (hl0:l.length≤1000000):FnOK Tryz.prog 39 [.one (mts l)] (.c (.one (bol (mtR l)))):=by
 have hll:(l.map Mt.c).length=l.length:=List.length_map ..
 unfold mtR
 rw [show mRun none l=mRun (prev l 0) (l.drop 0) from rfl]
 obtain ⟨V,hV⟩:∃ V,V=mRun (prev l 0) (l.drop 0):=⟨_,rfl⟩
 rw [← hV]
 refine fn_ok (by kernel_rfl) ty_ok Tryz.func39 rfl (fun _ _=>Tryz.call39 _ _) rfl ?_
 intro hw
 clear hw
 repeat' ((conv=>whnf);first|(with_reducible first|refine br_t ?_|refine br_f ?_|refine za ?_|refine zg ?_)|refine zp ?_|refine zq ?_|(with_reducible first|refine bc (fun h => ?_) (fun h => ?_)|refine zt ?_|refine zf ?_|refine br_i (fun h => ?_) (fun h => ?_))|refine zg ?_|refine zi ?_|refine zb ?_)
 refine loop_J (by kernel_rfl) ty_ok (σ:=Nat) (fun i=>[(7,sV (.int .i64 (i:Nat)))]) (fun _=>[]) (fun i=>i≤l.length∧V=mRun (prev l i) (l.drop i)∧(0<i→∀ h:i-1<l.length,mOk l[i-1]=true)) (fun i=>l.length-i) 0 ⟨Nat.zero_le _,hV,fun h=>absurd h (Nat.lt_irrefl _)⟩ ?_ ?_
 ·(conv=>whnf);exact zent
 rintro i ⟨hi,hI,hP⟩
 rcases Nat.lt_or_ge i l.length with hlt|hge
 ·have hel:=mts_get hlt
  have ew:IntKind.i64.wrap ((i:Int)+1)=((i+1:Nat):Int):=by rw [IntWalk.i64_in _ (by omega)];omega
  have Hc:=check_fn l[i].n l[i].d
  have Hn:=tnamed_fn l[i].j
  have nj:l[i].j≤65535→0≤l[i].j→nmd l[i].j=true:=fun h1 h2=>by unfold nmd;simp [h1,h2]
  have nk:¬ l[i].j≤65535→nmd l[i].j=false:=fun h1=>by unfold nmd;simp [h1]
  rcases mRun_at hlt with ⟨e1,e2⟩|⟨e1,e2,h0,e3⟩|⟨e1,e2,e3⟩
  ·rw [e1] at hI
   subst hI
   have hb:¬ (chk l[i].n l[i].d=0∧0≤l[i].i∧l[i].i<l[i].j∧l[i].j≤65535):=fun h=>by rw [mOk_i.2 h] at e2;cases e2
   clear e1 e2 hP hV
   generalize l[i]=m at *
   obtain ⟨m1,m2,m3,m4⟩:=m
   simp only at hel Hc Hn nj nk hb
   generalize chk m1 m2=z at *
   by_cases h1:z=0
   ·subst h1
    by_cases h2:0≤m3
    ·by_cases h3:m3<m4
     ·have h4:¬ m4≤65535:=fun h=>hb ⟨rfl,h2,h3,h⟩
      rw [nk h4] at Hn
      exact zw
     ·clear Hn
      exact zw
    ·clear Hn
     exact zw
   ·clear Hn
    exact zw
  ·rw [e2] at hI
   subst hI
   obtain ⟨c1,c2,c3,c4⟩:=mOk_i.1 e1
   have hpk:=hP h0 (by omega)
   obtain ⟨d1,d2,d3,d4⟩:=mOk_i.1 hpk
   have Hb:=tbefore_fn d1 c1
   have ew2:IntKind.i64.wrap ((i:Int)-1)=((i-1:Nat):Int):=by rw [IntWalk.i64_in _ (by omega)];omega
   have hel2:(l.map Mt.c)[(IntKind.i64.wrap ((i:Int)-1)).toNat]? = some [i64 (l[i-1]'(by omega)).n,i64 (l[i-1]'(by omega)).d,i64 (l[i-1]'(by omega)).i,i64 (l[i-1]'(by omega)).j]:=by rw [ew2];exact mts_get (by omega)
   rw [c1] at Hc
   rw [nj c4 (by omega)] at Hn
   clear e1 e2 hP hV nj nk d1 d2 d3 d4 hpk c1
   generalize cfM (l[i-1]'(by omega)) l[i]=z at *
   generalize l[i-1]'(by omega)=q at *
   generalize l[i]=m at *
   obtain ⟨m1,m2,m3,m4⟩:=m
   obtain ⟨q1,q2,q3,q4⟩:=q
   simp only [Mt.dc] at hel hel2 Hc Hn Hb c2 c3 c4
   exact zw
  ·obtain ⟨c1,c2,c3,c4⟩:=mOk_i.1 e1
   rw [c1] at Hc
   rw [nj c4 (by omega)] at Hn
   have hN:i+1≤l.length∧V=mRun (prev l (i+1)) (l.drop (i+1))∧(0<i+1→∀ h:i+1-1<l.length,mOk l[i+1-1]=true):=⟨hlt,by rw [hI,e2],fun _ h=>by simpa using e1⟩
   by_cases h0:0<i
   ·have hpk:=hP h0 (by omega)
    obtain ⟨d1,d2,d3,d4⟩:=mOk_i.1 hpk
    have Hb:=tbefore_fn d1 c1
    have ez:=e3 h0
    have ew2:IntKind.i64.wrap ((i:Int)-1)=((i-1:Nat):Int):=by rw [IntWalk.i64_in _ (by omega)];omega
    have hel2:(l.map Mt.c)[(IntKind.i64.wrap ((i:Int)-1)).toNat]? = some [i64 (l[i-1]'(by omega)).n,i64 (l[i-1]'(by omega)).d,i64 (l[i-1]'(by omega)).i,i64 (l[i-1]'(by omega)).j]:=by rw [ew2];exact mts_get (by omega)
    clear e1 e2 e3 hP hV hI nj nk d1 d2 d3 d4 hpk c1
    generalize cfM (l[i-1]'(by omega)) l[i]=z at *
    generalize l[i-1]'(by omega)=q at *
    obtain ⟨m,hm⟩:∃ m,m=l[i]:=⟨_,rfl⟩
    rw [← hm] at hel Hc Hn Hb c2 c3 c4
    clear hm
    obtain ⟨m1,m2,m3,m4⟩:=m
    obtain ⟨q1,q2,q3,q4⟩:=q
    simp only [Mt.dc] at hel hel2 Hc Hn Hb c2 c3 c4
    repeat' ((conv=>whnf);first|(with_reducible first|refine br_t ?_|refine br_f ?_|refine za ?_|refine zg ?_)|refine zp ?_|refine zq ?_|(with_reducible first|refine bc (fun h => ?_) (fun h => ?_)|refine zt ?_|refine zf ?_|refine br_i (fun h => ?_) (fun h => ?_))|refine zg ?_|refine zi ?_|refine zb ?_)
    all_goals conv=>whnf
    refine ⟨i+1,hN,?_,by omega⟩
    rw [← ew]
    (conv=>whnf);exact zent
   ·clear e1 e2 e3 hP hV hI nj nk c1
    obtain ⟨m,hm⟩:∃ m,m=l[i]:=⟨_,rfl⟩
    rw [← hm] at hel Hc Hn c2 c3 c4
    clear hm
    obtain ⟨m1,m2,m3,m4⟩:=m
    simp only at hel Hc Hn c2 c3 c4
    repeat' ((conv=>whnf);first|(with_reducible first|refine br_t ?_|refine br_f ?_|refine za ?_|refine zg ?_)|refine zp ?_|refine zq ?_|(with_reducible first|refine bc (fun h => ?_) (fun h => ?_)|refine zt ?_|refine zf ?_|refine br_i (fun h => ?_) (fun h => ?_))|refine zg ?_|refine zi ?_|refine zb ?_)
    all_goals conv=>whnf
    refine ⟨i+1,hN,?_,by omega⟩
    rw [← ew]
    (conv=>whnf);exact zent
 ·obtain rfl:i=l.length:=by omega
  rw [List.drop_length] at hI
  have hVt:V=true:=by rw [hI];cases prev l l.length<;>rfl
  subst hVt
  repeat' ((conv=>whnf);first|(with_reducible first|refine br_t ?_|refine br_f ?_|refine za ?_|refine zg ?_)|refine zp ?_|refine zq ?_|(with_reducible first|refine bc (fun h => ?_) (fun h => ?_)|refine zt ?_|refine zf ?_|refine br_i (fun h => ?_) (fun h => ?_))|refine zg ?_|refine zi ?_|refine zb ?_)
  all_goals conv=>whnf
  all_goals first|rfl|exact r_bool (by simp [hll];omega)
end Go.Proofs.YtfkfficabeclcaaGreatDoor

namespace Go.Proofs.YtfkfficabeclcaaGreatDoor
open Go Go.RowKit Go.Sort Sx
set_option maxRecDepth 2000
set_option maxRecDepth 100000 in
set_option maxHeartbeats 4000000 in
theorem tCheck_fn (r:Rp) (hl0:r.ms.length≤1000000):FnOK Tryz.prog 11 [r.dc] (ret1 (rchk r)):=by
 obtain ⟨e,i,j,n,d,l⟩:=r
 simp only at hl0
 have hll:(l.map Mt.c).length=l.length:=List.length_map ..
 unfold rchk
 simp only [Rp.dc]
 by_cases he:e=0
 ·rw [if_neg (by simp [he])]
  subst he
  by_cases hl:l=[]
  ·subst hl
   rw [if_neg (by simp)]
   by_cases hd:d=0
   ·rw [if_neg (by simp [hd])]
    subst hd
    have S:=oSame_fn ⟨0,i,j,n,0,[]⟩ rp0
    by_cases hz:(⟨0,i,j,n,0,[]⟩:Rp)=rp0
    ·rw [decide_eq_true hz] at S
     rw [if_pos hz]
     simp only [Rp.dc,rp0] at S
     replace S:FnOK Tryz.prog 42 [.agg [i64 0,i64 i,i64 j,i64 n,i64 0,.list 4 []],.agg [i64 0,i64 0,i64 0,i64 0,i64 0,.list 4 []]] (.c (.one (bol true))):=S
     show FnOK Tryz.prog 11 [.agg [i64 0,i64 i,i64 j,i64 n,i64 0,.list 4 []]] _
     refine fn_ok (by kernel_rfl) ty_ok Tryz.func11 rfl (fun _ _=>Tryz.call11 _ _) rfl ?_
     intro hw
     clear hw
     exact zw
    ·rw [decide_eq_false hz] at S
     rw [if_neg hz]
     simp only [Rp.dc,rp0] at S
     replace S:FnOK Tryz.prog 42 [.agg [i64 0,i64 i,i64 j,i64 n,i64 0,.list 4 []],.agg [i64 0,i64 0,i64 0,i64 0,i64 0,.list 4 []]] (.c (.one (bol false))):=S
     show FnOK Tryz.prog 11 [.agg [i64 0,i64 i,i64 j,i64 n,i64 0,.list 4 []]] _
     refine fn_ok (by kernel_rfl) ty_ok Tryz.func11 rfl (fun _ _=>Tryz.call11 _ _) rfl ?_
     intro hw
     clear hw
     exact zw
   ·rw [if_pos (by simpa using hd)]
    have S:=oSame_fn ⟨0,i,j,n,d,[]⟩ ⟨0,i,j,n,d,[]⟩
    rw [decide_eq_true rfl] at S
    simp only [Rp.dc] at S
    replace S:FnOK Tryz.prog 42 [.agg [i64 0,i64 i,i64 j,i64 n,i64 d,.list 4 []],.agg [i64 0,i64 i,i64 j,i64 n,i64 d,.list 4 []]] (.c (.one (bol true))):=S
    have Hc:=check_fn n d
    have Hi:=tnamed_fn i
    have Hj:=tnamed_fn j
    by_cases c1:chk n d=0
    ·rw [c1] at Hc
     by_cases c2:nmd i=true
     ·rw [c2] at Hi
      by_cases c3:j=0
      ·rw [if_pos ⟨c1,c2,.inl c3⟩]
       subst c3
       show FnOK Tryz.prog 11 [.agg [i64 0,i64 i,i64 0,i64 n,i64 d,.list 4 []]] _
       refine fn_ok (by kernel_rfl) ty_ok Tryz.func11 rfl (fun _ _=>Tryz.call11 _ _) rfl ?_
       intro hw
       clear hw
       exact zw
      ·by_cases c4:i<j
       ·by_cases c5:nmd j=true
        ·rw [c5] at Hj
         by_cases c6:0≤n
         ·rw [if_pos ⟨c1,c2,.inr ⟨c4,c5,c6⟩⟩]
          show FnOK Tryz.prog 11 [.agg [i64 0,i64 i,i64 j,i64 n,i64 d,.list 4 []]] _
          refine fn_ok (by kernel_rfl) ty_ok Tryz.func11 rfl (fun _ _=>Tryz.call11 _ _) rfl ?_
          intro hw
          clear hw
          exact zw
         ·rw [if_neg (fun h=>c6 (h.2.2.resolve_left c3).2.2)]
          show FnOK Tryz.prog 11 [.agg [i64 0,i64 i,i64 j,i64 n,i64 d,.list 4 []]] _
          refine fn_ok (by kernel_rfl) ty_ok Tryz.func11 rfl (fun _ _=>Tryz.call11 _ _) rfl ?_
          intro hw
          clear hw
          exact zw
        ·rw [if_neg (fun h=>c5 (h.2.2.resolve_left c3).2.1)]
         rw [show nmd j=false by simpa using c5] at Hj
         show FnOK Tryz.prog 11 [.agg [i64 0,i64 i,i64 j,i64 n,i64 d,.list 4 []]] _
         refine fn_ok (by kernel_rfl) ty_ok Tryz.func11 rfl (fun _ _=>Tryz.call11 _ _) rfl ?_
         intro hw
         clear hw
         exact zw
       ·rw [if_neg (fun h=>c4 (h.2.2.resolve_left c3).1)]
        show FnOK Tryz.prog 11 [.agg [i64 0,i64 i,i64 j,i64 n,i64 d,.list 4 []]] _
        refine fn_ok (by kernel_rfl) ty_ok Tryz.func11 rfl (fun _ _=>Tryz.call11 _ _) rfl ?_
        intro hw
        clear hw
        exact zw
     ·rw [if_neg (fun h=>c2 h.2.1)]
      rw [show nmd i=false by simpa using c2] at Hi
      show FnOK Tryz.prog 11 [.agg [i64 0,i64 i,i64 j,i64 n,i64 d,.list 4 []]] _
      refine fn_ok (by kernel_rfl) ty_ok Tryz.func11 rfl (fun _ _=>Tryz.call11 _ _) rfl ?_
      intro hw
      clear hw
      exact zw
    ·rw [if_neg (fun h=>c1 h.1)]
     generalize chk n d=z at *
     show FnOK Tryz.prog 11 [.agg [i64 0,i64 i,i64 j,i64 n,i64 d,.list 4 []]] _
     refine fn_ok (by kernel_rfl) ty_ok Tryz.func11 rfl (fun _ _=>Tryz.call11 _ _) rfl ?_
     intro hw
     clear hw
     exact zw
  ·rw [if_pos (by simpa using hl)]
   have hp:0<l.length:=List.length_pos_iff.2 hl
   have M:=tmeetings_fn l hl0
   have S:=oSame_fn ⟨0,i,j,n,d,l⟩ ⟨0,0,0,0,0,l⟩
   simp only [Rp.dc] at S ⊢
   by_cases c1:mtR l=true
   ·rw [c1] at M
    by_cases c2:(⟨0,i,j,n,d,l⟩:Rp)=⟨0,0,0,0,0,l⟩
    ·rw [if_pos ⟨c1,c2⟩]
     rw [decide_eq_true c2] at S
     refine fn_ok (by kernel_rfl) ty_ok Tryz.func11 rfl (fun _ _=>Tryz.call11 _ _) rfl ?_
     intro hw
     clear hw
     exact zw
    ·rw [if_neg (fun h=>c2 h.2)]
     rw [decide_eq_false c2] at S
     refine fn_ok (by kernel_rfl) ty_ok Tryz.func11 rfl (fun _ _=>Tryz.call11 _ _) rfl ?_
     intro hw
     clear hw
     exact zw
   ·rw [if_neg (fun h=>c1 h.1)]
    rw [show mtR l=false by simpa using c1] at M
    refine fn_ok (by kernel_rfl) ty_ok Tryz.func11 rfl (fun _ _=>Tryz.call11 _ _) rfl ?_
    intro hw
    clear hw
    exact zw
 ·rw [if_pos (by simpa using he)]
  have S:=oSame_fn ⟨e,i,j,n,d,l⟩ (rpE e)
  replace S:FnOK Tryz.prog 42 [.agg [i64 e,i64 i,i64 j,i64 n,i64 d,mts l],.agg [i64 e,i64 0,i64 0,i64 0,i64 0,.list 4 []]] (.c (.one (bol (decide ((⟨e,i,j,n,d,l⟩:Rp)=rpE e))))):=S
  by_cases c1:1≤e
  ·by_cases c2:e≤99
   ·by_cases c3:(⟨e,i,j,n,d,l⟩:Rp)=rpE e
    ·rw [if_pos ⟨c1,c2,c3⟩]
     rw [decide_eq_true c3] at S
     refine fn_ok (by kernel_rfl) ty_ok Tryz.func11 rfl (fun _ _=>Tryz.call11 _ _) rfl ?_
     intro hw
     clear hw
     exact zw
    ·rw [if_neg (fun h=>c3 h.2.2)]
     rw [decide_eq_false c3] at S
     refine fn_ok (by kernel_rfl) ty_ok Tryz.func11 rfl (fun _ _=>Tryz.call11 _ _) rfl ?_
     intro hw
     clear hw
     exact zw
   ·rw [if_neg (fun h=>c2 h.2.1)]
    refine fn_ok (by kernel_rfl) ty_ok Tryz.func11 rfl (fun _ _=>Tryz.call11 _ _) rfl ?_
    intro hw
    clear hw
    exact zw
  ·rw [if_neg (fun h=>c1 h.1)]
   refine fn_ok (by kernel_rfl) ty_ok Tryz.func11 rfl (fun _ _=>Tryz.call11 _ _) rfl ?_
   intro hw
   clear hw
   exact zw
end Go.Proofs.YtfkfficabeclcaaGreatDoor

namespace Go.Proofs.YtfkfficabeclcaaGreatDoor
open Go.RowKit Go.Sort Sx Go.Lib
def endL (l:List Str):Str:=l.flatMap fun x=>x++[10]
theorem spl_end:∀ {l:List Str},(∀ x∈l,(10:UInt8) ∉ x)→spl 10 (endL l)=l++[[]]
 | [],_=>rfl
 | x::l,h=>by
  have e:endL (x::l)=x++10::endL l:=by unfold endL;rw [List.flatMap_cons,List.append_assoc];rfl
  rw [e,spl_at _ (h x (List.mem_cons_self ..)),spl_end (fun y hy=>h y (List.mem_cons_of_mem _ hy))];rfl
theorem itoa_no10 (n:Int):(10:UInt8) ∉ itoa n:=itoa_no (by decide) (by decide)
theorem dec_len_le {u k:Nat} (hk:1≤k) (h:u<10 ^ k):(decDigits u).length≤k:=by
 rw [decDigits_length]
 have:∀ (j u:Nat),u<10 ^ (j+1)→nDigits u≤j+1:=by
  intro j
  induction j with
  | zero=>intro u hu;rw [nDigits_small (by simpa using hu)];exact Nat.le_refl _
  | succ j ih2 =>
   intro u hu
   by_cases h10:u<10
   ·rw [nDigits_small h10];omega
   ·rw [nDigits_big h10]
    have:=ih2 (u / 10) (by rw [Nat.pow_succ] at hu;omega)
    omega
 obtain ⟨j,rfl⟩:∃ j,k=j+1:=⟨k-1,by omega⟩
 exact this j u h
theorem itoa_len_le {n:Int} {k:Nat} (hk:1≤k) (h:n.natAbs<10 ^ k):(itoa n).length≤k+1:=by
 unfold itoa
 split
 ·rw [List.length_cons];have:=dec_len_le hk h;omega
 ·have:=dec_len_le (u:=n.toNat) hk (Nat.lt_of_le_of_lt (by omega) h)
  omega
end Go.Proofs.YtfkfficabeclcaaGreatDoor

namespace Go.Proofs.YtfkfficabeclcaaGreatDoor
open Go.RowKit Go.Sort Sx Go.Lib
def wErr:Str:=[101,114,114,111,114]
def wMeet:Str:=[109,101,101,116,105,110,103,115]
def wDone:Str:=[100,111,110,101]
def wLeader:Str:=[108,101,97,100,101,114]
def wPair:Str:=[112,97,105,114]
def mWords (m:Mt):List Str:=[(numV m.n m.d).1,itoa m.i,itoa m.j]
def rWords (r:Rp):List Str :=
 if r.e≠0 then [wErr,itoa r.e]
 else if r.ms≠[] then wMeet::r.ms.flatMap mWords
 else if r.d=0 then [wDone]
 else if r.j=0 then [wLeader,itoa r.i,(numV r.n r.d).1]
 else [wPair,itoa r.i,itoa r.j,(numV r.n r.d).1]
def rText (r:Rp):Str:=joinS (rWords r)
def replyV (r:Rp):Str × Int:=if rchk r=0 then (rText r,0) else ([],8)
def atoV (s:Str):Option Int:=match atoiAll s with|.ok v=>some v|_=>none
def frV (s:Str):Option (Int × Int):=if (readV s).2=0 then some (readV s).1 else none
def rdMs:List Str→Option (List Mt)
 | []=>some []
 | a::b::c::r=>match frV a,atoV b,atoV c with
  | some q,some i,some j=>(rdMs r).map fun l=>⟨q.1,q.2,i,j⟩::l
  | _,_,_=>none
 | _=>none
def rdWP (w0:Str) (t:List Str):Option Rp :=
 if w0=wDone then some rp0
 else if w0=wErr then (match t with|[a]=>(atoV a).map fun n=>rpE n|_=>none)
 else if w0=wLeader then (match t with|[a,b]=>(match atoV a,frV b with|some i,some q=>some ⟨0,i,0,q.1,q.2,[]⟩|_,_=>none)|_=>none)
 else if w0=wPair then (match t with|[a,b,c]=>(match atoV a,atoV b,frV c with|some i,some j,some q=>some ⟨0,i,j,q.1,q.2,[]⟩|_,_,_=>none)|_=>none)
 else if w0=wMeet then (rdMs t).map fun l=>⟨0,0,0,0,0,l⟩
 else none
def backR (s:Str) (r:Option Rp):Rp × Int:=match r with|some r=>if rchk r=0∧rText r=s then (r,0) else (rp0,12)|none=>(rp0,12)
def rrdP (s:Str):Rp × Int:=backR s (rdWP ((spl 32 s).headD []) (spl 32 s).tail)
def rreadP (s:Str):Rp × Int:=if 110000<s.length then (rp0,4) else rrdP s
theorem backR_ok {s:Str} {m:Option Rp} (h:(backR s m).2=0):rchk (backR s m).1=0∧rText (backR s m).1=s:=by
 unfold backR at h ⊢
 cases m with
 | none=>cases h
 | some m =>
  dsimp only at h ⊢
  split at h
  ·rename_i c;rw [if_pos c];exact c
  ·cases h
theorem backR_no {s:Str} {m:Option Rp} (h:(backR s m).2≠0):backR s m=(rp0,12):=by
 unfold backR at h ⊢
 cases m with
 | none=>rfl
 | some m =>
  dsimp only at h ⊢
  split at h
  ·exact absurd rfl h
  ·rename_i c;rw [if_neg c]
theorem backR_of {s:Str} {m:Rp} (h:rchk m=0) (e:rText m=s):backR s (some m)=(m,0):=by
 unfold backR;dsimp only;rw [if_pos ⟨h,e⟩]
theorem spl_join:∀ {l:List Str},l≠[]→(∀ x∈l,(32:UInt8) ∉ x)→spl 32 (joinS l)=l
 | [],h,_=>absurd rfl h
 | [a],_,h=>by
  show spl 32 a=[a]
  exact spl_no (h a (by simp))
 | a::b::l,_,h=>by
  show spl 32 (a++32::joinS (b::l))=_
  rw [spl_at _ (h a (by simp)),spl_join (l:=b::l) (by simp) fun x hx=>h x (List.mem_cons_of_mem _ hx)]
theorem num_no32 (n d:Int):(32:UInt8) ∉ (numV n d).1:=by
 unfold numV
 split
 ·exact wrt_no32 n d
 ·simp
theorem rWords_ne (r:Rp):rWords r≠[]:=by
 unfold rWords
 repeat' split
 all_goals simp
theorem rWords_no (r:Rp):∀ x∈rWords r,(32:UInt8) ∉ x:=by
 intro x hx
 have w1:(32:UInt8) ∉ wErr:=by decide
 have w2:(32:UInt8) ∉ wMeet:=by decide
 have w3:(32:UInt8) ∉ wDone:=by decide
 have w4:(32:UInt8) ∉ wLeader:=by decide
 have w5:(32:UInt8) ∉ wPair:=by decide
 unfold rWords at hx
 split at hx
 ·rcases List.mem_cons.1 hx with rfl|hx
  ·exact w1
  ·obtain rfl:=List.mem_singleton.1 hx;exact itoa_no32 _
 split at hx
 ·rcases List.mem_cons.1 hx with rfl|hx
  ·exact w2
  ·obtain ⟨m,_,hm⟩:=List.mem_flatMap.1 hx
   unfold mWords at hm
   simp only [List.mem_cons,List.not_mem_nil,or_false] at hm
   rcases hm with rfl|rfl|rfl
   ·exact num_no32 _ _
   ·exact itoa_no32 _
   ·exact itoa_no32 _
 split at hx
 ·obtain rfl:=List.mem_singleton.1 hx;exact w3
 split at hx
 ·simp only [List.mem_cons,List.not_mem_nil,or_false] at hx
  rcases hx with rfl|rfl|rfl
  ·exact w4
  ·exact itoa_no32 _
  ·exact num_no32 _ _
 ·simp only [List.mem_cons,List.not_mem_nil,or_false] at hx
  rcases hx with rfl|rfl|rfl|rfl
  ·exact w5
  ·exact itoa_no32 _
  ·exact itoa_no32 _
  ·exact num_no32 _ _
theorem spl_text (r:Rp):spl 32 (rText r)=rWords r:=spl_join (rWords_ne r) (rWords_no r)
theorem dec_ne2 (u:Nat):∃ b r,decDigits u=b::r∧b≠45∧b≠43:=by
 have hd:=decFrom_dec u
 cases h:decDigits u with
 | nil =>
  have:=decDigits_length u
  rw [h] at this
  have h2:0<nDigits u:=by
   by_cases h10:u<10
   ·rw [nDigits_small h10];omega
   ·rw [nDigits_big (by omega)];omega
  simp at this
  omega
 | cons b r =>
  rw [h,decFrom] at hd
  refine ⟨b,r,rfl,?_,?_⟩
  ·rintro rfl;cases hd
  ·rintro rfl;cases hd
theorem decNat_dec (u:Nat):decNat (decDigits u)=some u:=by
 obtain ⟨b,r,h,_⟩:=dec_ne2 u
 unfold decNat
 rw [if_neg (by rw [h];simp),decFrom_dec]
theorem atoi_itoa (n:Int):atoi (itoa n)=some n:=by
 unfold itoa
 split
 ·rename_i h
  unfold atoi
  simp only [beq_self_eq_true,if_true]
  rw [decNat_dec]
  simp
  omega
 ·rename_i h
  obtain ⟨b,r,hb,h1,h2⟩:=dec_ne2 n.toNat
  have e:=decNat_dec n.toNat
  rw [hb] at e ⊢
  unfold atoi
  simp only [beq_iff_eq,h1,h2,if_false]
  rw [e]
  simp
  omega
theorem atoV_itoa {n:Int} (h:n.natAbs<10 ^ 17):atoV (itoa n)=some n:=by
 have hl:=itoa_len_le (n:=n) (k:=17) (by decide) h
 unfold atoV
 rw [atoiAll_short _ (by omega),atoi_itoa]
 rfl
theorem atoV_id {n:Int} (h0:0≤n) (h1:n≤65535):atoV (itoa n)=some n:=atoV_itoa (by rw [show (10:Nat) ^ 17=100000000000000000 by decide];omega)
end Go.Proofs.YtfkfficabeclcaaGreatDoor

namespace Go.Proofs.YtfkfficabeclcaaGreatDoor
open Go.RowKit Go.Sort Sx Go.Lib
def fit2 (n d:Int):Prop:=fitI n∧fitI d
def rin (r:Rp):Prop:=fit2 r.n r.d∧∀ m∈r.ms,fit2 m.n m.d
theorem frV_of {n d:Int} (h:chk n d=0) (hf:fit2 n d):frV (numV n d).1=some (n,d):=by
 unfold frV
 rw [show (numV n d).1=wrtV n d by unfold numV;rw [if_pos h],readV_is.of n d h hf.1 hf.2]
 rfl
theorem frV_fit {s:Str} {q:Int × Int} (h:frV s=some q):fit2 q.1 q.2:=by
 unfold frV at h
 split at h
 ·rename_i h0
  injection h with h
  subst h
  exact readV_is.fit s h0
 ·cases h
theorem mRun_ok:∀ {p:Option Mt} {l:List Mt},mRun p l=true→∀ m∈l,mOk m=true
 | _,[],_,m,h=>by cases h
 | none,x::r,h,m,hm=>by
  unfold mRun at h
  simp only [Bool.and_eq_true] at h
  rcases List.mem_cons.1 hm with rfl|hm
  ·exact h.1
  ·exact mRun_ok h.2 m hm
 | some p,x::r,h,m,hm=>by
  unfold mRun at h
  simp only [Bool.and_eq_true] at h
  rcases List.mem_cons.1 hm with rfl|hm
  ·exact h.1.1
  ·exact mRun_ok h.2 m hm
theorem rdMs_of:∀ {l:List Mt},(∀ m∈l,mOk m=true)→(∀ m∈l,fit2 m.n m.d)→rdMs (l.flatMap mWords)=some l
 | [],_,_=>rfl
 | m::l,h,hf=>by
  obtain ⟨c1,c2,c3,c4⟩:=mOk_i.1 (h m (List.mem_cons_self ..))
  have ih:=rdMs_of (l:=l) (fun x hx=>h x (List.mem_cons_of_mem _ hx)) fun x hx=>hf x (List.mem_cons_of_mem _ hx)
  rw [List.flatMap_cons]
  show rdMs ((numV m.n m.d).1::itoa m.i::itoa m.j::l.flatMap mWords)=_
  rw [rdMs,frV_of c1 (hf m (List.mem_cons_self ..)),atoV_id c2 (by omega),atoV_id (by omega) c4,ih]
  rfl
theorem rchk_cases {r:Rp} (h:rchk r=0):(1≤r.e∧r.e≤99∧r=rpE r.e)∨(r.ms≠[]∧mtR r.ms=true∧r=⟨0,0,0,0,0,r.ms⟩)∨(r.d≠0∧chk r.n r.d=0∧0≤r.i∧r.i≤65535∧r=⟨0,r.i,0,r.n,r.d,[]⟩)∨(r.d≠0∧chk r.n r.d=0∧0≤r.i∧r.i<r.j∧r.j≤65535∧0≤r.n∧r=⟨0,r.i,r.j,r.n,r.d,[]⟩)∨r=rp0:=by
 obtain ⟨e,i,j,n,d,l⟩:=r
 unfold rchk at h
 simp only at h ⊢
 split at h
 ·split at h
  ·rename_i hc;exact .inl hc
  ·omega
 rename_i he
 have he:e=0:=Decidable.not_not.1 he
 subst he
 split at h
 ·rename_i hl
  split at h
  ·rename_i hc;exact .inr (.inl ⟨hl,hc.1,hc.2⟩)
  ·omega
 rename_i hl
 have hl:l=[]:=Decidable.not_not.1 hl
 subst hl
 split at h
 ·rename_i hd
  split at h
  ·rename_i hc
   obtain ⟨c1,c2,c3⟩:=hc
   unfold nmd at c2
   simp only [Bool.and_eq_true,decide_eq_true_eq] at c2
   rcases c3 with rfl|⟨c4,c5,c6⟩
   ·exact .inr (.inr (.inl ⟨hd,c1,c2.1,c2.2,rfl⟩))
   ·unfold nmd at c5
    simp only [Bool.and_eq_true,decide_eq_true_eq] at c5
    exact .inr (.inr (.inr (.inl ⟨hd,c1,c2.1,c4,c5.2,c6,rfl⟩)))
  ·omega
 ·split at h
  ·rename_i hc;exact .inr (.inr (.inr (.inr hc)))
  ·omega
end Go.Proofs.YtfkfficabeclcaaGreatDoor
