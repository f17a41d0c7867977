import Derived.Test.YtddbmpbihpkabaaGreatGLGPartsAV
import Derived.Test.YtddbmpbihpkabaaGreatGLGPartsAS
set_option linter.all false
namespace Go.Proofs.YtddbmpbihpkabaaGreat
open Go.RowKit Go.Sort Sx
set_option maxRecDepth 2000
def plcs (l:List Pt) (n m:Int) (i:Nat):List (List D):=(l.take i).map (fun p=>[i64 (plc p n m).1,i64 (plc p n m).2])++List.replicate (l.length-i) [i64 0,i64 0]
theorem plcs_len {l:List Pt} {n m:Int} {i:Nat}:i≤l.length→(plcs l n m i).length=l.length:=by
 intro h
 simp [plcs];omega
theorem plcs_get0 {l:List Pt} {n m:Int} {i:Nat} (h:i<l.length):(plcs l n m i)[((i:Nat):Int).toNat]? = some [i64 0,i64 0]:=by
 rw [Int.toNat_natCast,plcs,List.getElem?_append_right (by simp;omega)]
 rw [List.getElem?_replicate,if_pos (by simp;omega)]
theorem plcs_set {l:List Pt} {n m:Int} {i:Nat} (h:i<l.length):(plcs l n m i).set ((i:Nat):Int).toNat [i64 (plc l[i] n m).1,i64 (plc l[i] n m).2]=plcs l n m (i+1):=by
 rw [Int.toNat_natCast]
 unfold plcs
 have hk:l.length-i=(l.length-(i+1))+1:=by omega
 rw [List.take_succ_eq_append_getElem h,hk,List.replicate_succ,List.set_append_right _ _ (by simp;omega)]
 have h0:i-((l.take i).map fun p:Pt=>[i64 (plc p n m).1,i64 (plc p n m).2]).length=0:=by simp;omega
 rw [h0,List.map_append,List.append_assoc]
 rfl
theorem plcs_all (l:List Pt) (n m:Int):plcs l n m l.length=l.map fun p=>[i64 (plc p n m).1,i64 (plc p n m).2]:=by
 simp [plcs]
theorem plcs_get {l:List Pt} {n m:Int} {i:Nat} (h:i<l.length):(plcs l n m l.length)[((i:Nat):Int).toNat]? = some [i64 (plc l[i] n m).1,i64 (plc l[i] n m).2]:=by
 rw [plcs_all,Int.toNat_natCast,List.getElem?_map,List.getElem?_eq_getElem h];rfl
def cst (l:List Pt) (s:CSt) (x y:Int):Prop:=(s.2.2.2=0∧s.2.2.1=0∧x=0∧y=0)∨cgood l s∧∃ (h1:s.1<l.length) (h2:s.2.1<l.length),x=l[s.1].id∧y=l[s.2.1].id
set_option maxHeartbeats 4000000 in
set_option maxRecDepth 100000 in
theorem oClosest_fn (l:List Pt) (n m:Int):FnOK Tryz.prog 58 [fld l,rat n m] (retC (closV l n m)):=by
 refine fn_ok (by kernel_rfl) (ty_okK [40] [] [] []) Tryz.func58 rfl (fun _ _=>Tryz.call58 _ _) rfl ?_
 intro hw
 clear hw
 have H1:=fCheck_fn l
 have H2:=asked_fn n m
 have H3:=ofirst_fn (fchk l) (askd n m)
 unfold closV
 by_cases h0:fchk l=0
 ·obtain ⟨k1,k2,k3⟩:=fchk_ok h0
  rw [if_pos h0]
  by_cases h1:askd n m=0
  ·rw [if_pos h1]
   rw [h0,h1] at H3
   rw [h0] at H1
   rw [h1] at H2
   change FnOK _ _ _ (ret1 0) at H3
   by_cases h2:l.length<2
   ·rw [if_pos h2]
    repeat' ((conv=>whnf);first|(with_reducible first|refine br_t ?_|refine br_f ?_|refine za ?_|refine zg ?_|refine zo ?_)|rw [List.length_map]|refine zp ?_|refine zq ?_|(with_reducible first|refine bc (fun h => ?_) (fun h => ?_)|refine zt ?_|refine zf ?_|refine br_i (fun h => ?_) (fun h => ?_)|refine xi (pv_bool fun _=>nev23 _ _ _ _ _ _ _) ?_)|refine zg ?_|refine zi ?_|refine zb ?_|refine zl ?_)
    all_goals conv=>whnf
    all_goals rfl
   ·rw [if_neg h2]
    repeat' ((conv=>whnf);first|(with_reducible first|refine br_t ?_|refine br_f ?_|refine za ?_|refine zg ?_|refine zo ?_)|rw [List.length_map]|refine zp ?_|refine zq ?_|(with_reducible first|refine bc (fun h => ?_) (fun h => ?_)|refine zt ?_|refine zf ?_|refine br_i (fun h => ?_) (fun h => ?_)|refine xi (pv_bool fun _=>nev23 _ _ _ _ _ _ _) ?_)|refine zg ?_|refine zi ?_|refine zb ?_|refine zl ?_)
    all_goals conv=>whnf
    refine loop_frz [40] ?_
    refine loop_J (by kernel_rfl) (ty_okK [40] [] [] []) (σ:=Nat) (fun i=>[(44,sV (.int .i64 i))]) (fun i=>[(40,.row 2 (plcs l n m i) 0)]) (fun i=>i≤l.length) (fun i=>l.length-i) 0 (Nat.zero_le _) ?_ ?_
    ·(conv=>whnf);exact zent
    intro i hi
    have hln:=plcs_len (n:=n) (m:=m) hi
    rcases Nat.lt_or_ge i l.length with hlt|hge
    ·have hel:=pts_get hlt
     have hel2:=plcs_get0 (n:=n) (m:=m) hlt
     have H4:=kAt_fn l[i].id l[i].a l[i].b n m
     rw [(plc_ok (k2 _ (List.getElem_mem hlt)) h1).1] at H4
     simp only [ret3] at H4
     repeat' ((conv=>whnf);first|(with_reducible first|refine br_t ?_|refine br_f ?_|refine za ?_|refine zg ?_|refine zo ?_)|rw [List.length_map]|refine zp ?_|refine zq ?_|(with_reducible first|refine bc (fun h => ?_) (fun h => ?_)|refine zt ?_|refine zf ?_|refine br_i (fun h => ?_) (fun h => ?_)|refine xi (pv_bool fun _=>nev23 _ _ _ _ _ _ _) ?_)|refine zg ?_|refine zi ?_|refine zb ?_|refine zl ?_)
     all_goals conv=>whnf
     refine ⟨i+1,by omega,?_,by omega⟩
     (conv=>whnf);refine ⟨by repeat' (first|with_reducible exact zE0|with_reducible refine zE1 ?_ ?_|rfl|assumption|(exact congrArg (fun x=>some (Blk.row 2 x 0)) (plcs_set hlt))|exact zi1|exact zb1),by repeat' (first|with_reducible exact zH0|with_reducible refine zH1 ?_ ?_|rfl|assumption|(exact congrArg (fun x=>some (Blk.row 2 x 0)) (plcs_set hlt))),rfl⟩
    obtain rfl:i=l.length:=by omega
    repeat' ((conv=>whnf);first|(with_reducible first|refine br_t ?_|refine br_f ?_|refine za ?_|refine zg ?_|refine zo ?_)|rw [List.length_map]|refine zp ?_|refine zq ?_|(with_reducible first|refine bc (fun h => ?_) (fun h => ?_)|refine zt ?_|refine zf ?_|refine br_i (fun h => ?_) (fun h => ?_)|refine xi (pv_bool fun _=>nev23 _ _ _ _ _ _ _) ?_)|refine zg ?_|refine zi ?_|refine zb ?_|refine zl ?_)
    conv=>whnf
    refine loop_J (by kernel_rfl) (ty_okK [40] [] [] []) (σ:=Nat × CSt × Int × Int) (fun z=>[(66,sV (.int .i64 z.1)),(14,sV (.int .i64 z.2.2.1)),(15,sV (.int .i64 z.2.2.2))]) (fun z=>[(16,.own [.d (i64 z.2.1.2.2.1),.d (i64 z.2.1.2.2.2)])])
     (fun z=>z.1≤l.length∧cst l z.2.1 z.2.2.1 z.2.2.2∧outerC n m (l.drop z.1) z.1 z.2.1=pairC l n m) (fun z=>l.length-z.1) (0,(0,0,0,0),0,0) ⟨by omega,.inl ⟨rfl,rfl,rfl,rfl⟩,rfl⟩ ?_ ?_
    ·(conv=>whnf);exact zent
    rintro ⟨a,s,x,y⟩ ⟨g1,g2,g3⟩
    simp only at g1 g2 g3
    rcases Nat.lt_or_ge a l.length with hlt|hge
    ·rw [outerC_lt hlt] at g3
     repeat' ((conv=>whnf);first|(with_reducible first|refine br_t ?_|refine br_f ?_|refine za ?_|refine zg ?_|refine zo ?_)|rw [List.length_map]|refine zp ?_|refine zq ?_|(with_reducible first|refine bc (fun h => ?_) (fun h => ?_)|refine zt ?_|refine zf ?_|refine br_i (fun h => ?_) (fun h => ?_)|refine xi (pv_bool fun _=>nev23 _ _ _ _ _ _ _) ?_)|refine zg ?_|refine zi ?_|refine zb ?_|refine zl ?_)
     conv=>whnf
     refine loop_J (by kernel_rfl) (ty_okK [40] [] [] []) (σ:=Nat × CSt × Int × Int) (fun z=>[(18,sV (.int .i64 z.1)),(14,sV (.int .i64 z.2.2.1)),(15,sV (.int .i64 z.2.2.2))]) (fun z=>[(16,.own [.d (i64 z.2.1.2.2.1),.d (i64 z.2.1.2.2.2)])])
      (fun z=>z.1≤l.length∧cst l z.2.1 z.2.2.1 z.2.2.2∧innerC n m l[a] a (l.drop z.1) z.1 z.2.1=innerC n m l[a] a (l.drop (a+1)) (a+1) s) (fun z=>l.length-z.1) (a+1,s,x,y) ⟨by show _≤_;omega,g2,rfl⟩ ?_ ?_
     ·(conv=>whnf);exact zent
     rintro ⟨b,t,u,v⟩ ⟨f1,f2,f3⟩
     simp only at f1 f2 f3
     rcases Nat.lt_or_ge b l.length with hblt|hbge
     ·have hela:=plcs_get (n:=n) (m:=m) hlt
      have helb:=plcs_get (n:=n) (m:=m) hblt
      have hida:=pts_get hlt
      have hidb:=pts_get hblt
      rw [innerC_lt hblt] at f3
      obtain ⟨c,e1,e2,d1,d2,d3,d4,d5⟩:=dst_ok (k2 _ (List.getElem_mem hlt)) (k2 _ (List.getElem_mem hblt)) h1
      have H4:=sub_fn (plc l[a] n m).1 (plc l[a] n m).2 (plc l[b] n m).1 (plc l[b] n m).2
      rw [e1] at H4
      simp only [ret3] at H4
      have hgd:=fun h=>cgood_upd (n:=n) (m:=m) (s:=t) (a:=a) (b:=b) h k2 h1 hlt hblt
      have key:∀ z w:Int,z=(dst l[a] l[b] n m).1→w=(dst l[a] l[b] n m).2→cgood l t→FnOK Tryz.prog 53 (rat2 z w t.2.2.1 t.2.2.2) (.tup [.one (i64 (cmpN ((dst l[a] l[b] n m).1*t.2.2.2) (t.2.2.1*(dst l[a] l[b] n m).2))),.one (i64 0)]):=by
       rintro z w rfl rfl ht
       have:=cmp_fn (dst l[a] l[b] n m).1 (dst l[a] l[b] n m).2 t.2.2.1 t.2.2.2
       unfold cmpV bth at this
       rw [if_pos (by rw [d1,ht.1];decide)] at this
       exact this
      generalize hx:(dst l[a] l[b] n m).1=X at *
      generalize hy:(dst l[a] l[b] n m).2=Y at *
      rcases e2 with ⟨e2,e3⟩|⟨e2,e3⟩
      ·have hwr:IntKind.i64.wrap (0-c)=X:=by rw [IntWalk.i64_in _ (by omega)];omega
       have key2:=key (IntKind.i64.wrap (0-c)) Y hwr rfl
       rcases f2 with ⟨m1,m2,rfl,rfl⟩|⟨m1,m3,m4,rfl,rfl⟩
       ·have ec:cupd t a b (dst l[a] l[b] n m)=(a,b,X,Y):=by unfold cupd;rw [if_pos (.inl m1),hx,hy]
        have hg:=hgd (.inl m1)
        rw [ec] at f3 hg
        simp only [m1,m2] at *
        repeat' ((conv=>whnf);first|(with_reducible first|refine br_t ?_|refine br_f ?_|refine za ?_|refine zg ?_|refine zo ?_)|rw [List.length_map]|refine zp ?_|refine zq ?_|(with_reducible first|refine bc (fun h => ?_) (fun h => ?_)|refine zt ?_|refine zf ?_|refine br_i (fun h => ?_) (fun h => ?_)|refine xi (pv_bool fun _=>nev23 _ _ _ _ _ _ _) ?_)|refine zg ?_|refine zi ?_|refine zb ?_|refine zl ?_)
        all_goals conv=>whnf
        refine ⟨(b+1,(a,b,X,Y),l[a].id,l[b].id),⟨by show _≤_;omega,.inr ⟨hg,hlt,hblt,rfl,rfl⟩,f3⟩,?_,by show _-_<_-_;omega⟩
        (conv=>whnf);refine ⟨by repeat' (first|with_reducible exact zE0|with_reducible refine zE1 ?_ ?_|rfl|assumption|(exact congrArg (fun z=>some (Blk.own [.d (i64 z),.d (i64 Y)])) hwr)|exact zi1|exact zb1),by repeat' (first|with_reducible exact zH0|with_reducible refine zH1 ?_ ?_|rfl|assumption|(exact congrArg (fun z=>some (Blk.own [.d (i64 z),.d (i64 Y)])) hwr)),rfl⟩
       ·replace key2:=key2 m1
        have hg:=hgd (.inr m1)
        have n1:=m1.2.1
        have n2:=m1.2.2.2.1
        clear key
        by_cases hc:X*t.2.2.2<t.2.2.1*Y
        ·have ec:cupd t a b (dst l[a] l[b] n m)=(a,b,X,Y):=by unfold cupd;rw [hx,hy,if_pos (.inr hc)]
         rw [ec] at f3 hg
         have e9:cmpN (X*t.2.2.2) (t.2.2.1*Y) = -1:=if_pos hc
         rw [e9] at key2
         clear hc e9
         repeat' ((conv=>whnf);first|(with_reducible first|refine br_t ?_|refine br_f ?_|refine za ?_|refine zg ?_|refine zo ?_)|rw [List.length_map]|refine zp ?_|refine zq ?_|(with_reducible first|refine bc (fun h => ?_) (fun h => ?_)|refine zt ?_|refine zf ?_|refine br_i (fun h => ?_) (fun h => ?_)|refine xi (pv_bool fun _=>nev23 _ _ _ _ _ _ _) ?_)|refine zg ?_|refine zi ?_|refine zb ?_|refine zl ?_)
         all_goals conv=>whnf
         refine ⟨(b+1,(a,b,X,Y),l[a].id,l[b].id),⟨by show _≤_;omega,.inr ⟨hg,hlt,hblt,rfl,rfl⟩,f3⟩,?_,by show _-_<_-_;omega⟩
         (conv=>whnf);refine ⟨by repeat' (first|with_reducible exact zE0|with_reducible refine zE1 ?_ ?_|rfl|assumption|(exact congrArg (fun z=>some (Blk.own [.d (i64 z),.d (i64 Y)])) hwr)|exact zi1|exact zb1),by repeat' (first|with_reducible exact zH0|with_reducible refine zH1 ?_ ?_|rfl|assumption|(exact congrArg (fun z=>some (Blk.own [.d (i64 z),.d (i64 Y)])) hwr)),rfl⟩
         ·exfalso;simp only at h;omega
        ·have ec:cupd t a b (dst l[a] l[b] n m)=t:=by unfold cupd;rw [hx,hy,if_neg (by omega)]
         rw [ec] at f3
         have e9:0≤cmpN (X*t.2.2.2) (t.2.2.1*Y):=by unfold cmpN;rw [if_neg hc];split<;>omega
         generalize cmpN (X*t.2.2.2) (t.2.2.1*Y)=cc at key2 e9
         clear hc
         repeat' ((conv=>whnf);first|(with_reducible first|refine br_t ?_|refine br_f ?_|refine za ?_|refine zg ?_|refine zo ?_)|rw [List.length_map]|refine zp ?_|refine zq ?_|(with_reducible first|refine bc (fun h => ?_) (fun h => ?_)|refine zt ?_|refine zf ?_|refine br_i (fun h => ?_) (fun h => ?_)|refine xi (pv_bool fun _=>nev23 _ _ _ _ _ _ _) ?_)|refine zg ?_|refine zi ?_|refine zb ?_|refine zl ?_)
         all_goals conv=>whnf
         refine ⟨(b+1,t,l[t.1].id,l[t.2.1].id),⟨by show _≤_;omega,.inr ⟨m1,m3,m4,rfl,rfl⟩,f3⟩,?_,by show _-_<_-_;omega⟩
         (conv=>whnf);exact zent
         ·exfalso;simp only at h;omega
      ·have hwr:c=X:=by omega
       have key2:=key c Y hwr rfl
       rcases f2 with ⟨m1,m2,rfl,rfl⟩|⟨m1,m3,m4,rfl,rfl⟩
       ·have ec:cupd t a b (dst l[a] l[b] n m)=(a,b,X,Y):=by unfold cupd;rw [if_pos (.inl m1),hx,hy]
        have hg:=hgd (.inl m1)
        rw [ec] at f3 hg
        simp only [m1,m2] at *
        repeat' ((conv=>whnf);first|(with_reducible first|refine br_t ?_|refine br_f ?_|refine za ?_|refine zg ?_|refine zo ?_)|rw [List.length_map]|refine zp ?_|refine zq ?_|(with_reducible first|refine bc (fun h => ?_) (fun h => ?_)|refine zt ?_|refine zf ?_|refine br_i (fun h => ?_) (fun h => ?_)|refine xi (pv_bool fun _=>nev23 _ _ _ _ _ _ _) ?_)|refine zg ?_|refine zi ?_|refine zb ?_|refine zl ?_)
        all_goals conv=>whnf
        refine ⟨(b+1,(a,b,X,Y),l[a].id,l[b].id),⟨by show _≤_;omega,.inr ⟨hg,hlt,hblt,rfl,rfl⟩,f3⟩,?_,by show _-_<_-_;omega⟩
        (conv=>whnf);refine ⟨by repeat' (first|with_reducible exact zE0|with_reducible refine zE1 ?_ ?_|rfl|assumption|(exact congrArg (fun z=>some (Blk.own [.d (i64 z),.d (i64 Y)])) hwr)|exact zi1|exact zb1),by repeat' (first|with_reducible exact zH0|with_reducible refine zH1 ?_ ?_|rfl|assumption|(exact congrArg (fun z=>some (Blk.own [.d (i64 z),.d (i64 Y)])) hwr)),rfl⟩
       ·replace key2:=key2 m1
        have hg:=hgd (.inr m1)
        have n1:=m1.2.1
        have n2:=m1.2.2.2.1
        clear key
        by_cases hc:X*t.2.2.2<t.2.2.1*Y
        ·have ec:cupd t a b (dst l[a] l[b] n m)=(a,b,X,Y):=by unfold cupd;rw [hx,hy,if_pos (.inr hc)]
         rw [ec] at f3 hg
         have e9:cmpN (X*t.2.2.2) (t.2.2.1*Y) = -1:=if_pos hc
         rw [e9] at key2
         clear hc e9
         repeat' ((conv=>whnf);first|(with_reducible first|refine br_t ?_|refine br_f ?_|refine za ?_|refine zg ?_|refine zo ?_)|rw [List.length_map]|refine zp ?_|refine zq ?_|(with_reducible first|refine bc (fun h => ?_) (fun h => ?_)|refine zt ?_|refine zf ?_|refine br_i (fun h => ?_) (fun h => ?_)|refine xi (pv_bool fun _=>nev23 _ _ _ _ _ _ _) ?_)|refine zg ?_|refine zi ?_|refine zb ?_|refine zl ?_)
         all_goals conv=>whnf
         refine ⟨(b+1,(a,b,X,Y),l[a].id,l[b].id),⟨by show _≤_;omega,.inr ⟨hg,hlt,hblt,rfl,rfl⟩,f3⟩,?_,by show _-_<_-_;omega⟩
         (conv=>whnf);refine ⟨by repeat' (first|with_reducible exact zE0|with_reducible refine zE1 ?_ ?_|rfl|assumption|(exact congrArg (fun z=>some (Blk.own [.d (i64 z),.d (i64 Y)])) hwr)|exact zi1|exact zb1),by repeat' (first|with_reducible exact zH0|with_reducible refine zH1 ?_ ?_|rfl|assumption|(exact congrArg (fun z=>some (Blk.own [.d (i64 z),.d (i64 Y)])) hwr)),rfl⟩
         ·exfalso;simp only at h;omega
        ·have ec:cupd t a b (dst l[a] l[b] n m)=t:=by unfold cupd;rw [hx,hy,if_neg (by omega)]
         rw [ec] at f3
         have e9:0≤cmpN (X*t.2.2.2) (t.2.2.1*Y):=by unfold cmpN;rw [if_neg hc];split<;>omega
         generalize cmpN (X*t.2.2.2) (t.2.2.1*Y)=cc at key2 e9
         clear hc
         repeat' ((conv=>whnf);first|(with_reducible first|refine br_t ?_|refine br_f ?_|refine za ?_|refine zg ?_|refine zo ?_)|rw [List.length_map]|refine zp ?_|refine zq ?_|(with_reducible first|refine bc (fun h => ?_) (fun h => ?_)|refine zt ?_|refine zf ?_|refine br_i (fun h => ?_) (fun h => ?_)|refine xi (pv_bool fun _=>nev23 _ _ _ _ _ _ _) ?_)|refine zg ?_|refine zi ?_|refine zb ?_|refine zl ?_)
         all_goals conv=>whnf
         refine ⟨(b+1,t,l[t.1].id,l[t.2.1].id),⟨by show _≤_;omega,.inr ⟨m1,m3,m4,rfl,rfl⟩,f3⟩,?_,by show _-_<_-_;omega⟩
         (conv=>whnf);exact zent
         ·exfalso;simp only at h;omega
     ·rw [innerC_ge hbge] at f3
      rw [← f3] at g3
      repeat' ((conv=>whnf);first|(with_reducible first|refine br_t ?_|refine br_f ?_|refine za ?_|refine zg ?_|refine zo ?_)|rw [List.length_map]|refine zp ?_|refine zq ?_|(with_reducible first|refine bc (fun h => ?_) (fun h => ?_)|refine zt ?_|refine zf ?_|refine br_i (fun h => ?_) (fun h => ?_)|refine xi (pv_bool fun _=>nev23 _ _ _ _ _ _ _) ?_)|refine zg ?_|refine zi ?_|refine zb ?_|refine zl ?_)
      all_goals conv=>whnf
      refine ⟨(a+1,t,u,v),⟨by show _≤_;omega,f2,g3⟩,?_,by show _-_<_-_;omega⟩
      (conv=>whnf);exact zent
    ·rw [outerC_ge hge] at g3
     rw [← g3]
     rcases g2 with g2|⟨g2,g4,g5,rfl,rfl⟩
     ·exfalso
      have:=pairC_ok k2 h1 (by omega)
      rw [← g3] at this
      obtain ⟨_,_,_⟩:=this
      omega
     rw [List.getElem?_eq_getElem g4,List.getElem?_eq_getElem g5]
     repeat' ((conv=>whnf);first|(with_reducible first|refine br_t ?_|refine br_f ?_|refine za ?_|refine zg ?_|refine zo ?_)|rw [List.length_map]|refine zp ?_|refine zq ?_|(with_reducible first|refine bc (fun h => ?_) (fun h => ?_)|refine zt ?_|refine zf ?_|refine br_i (fun h => ?_) (fun h => ?_)|refine xi (pv_bool fun _=>nev23 _ _ _ _ _ _ _) ?_)|refine zg ?_|refine zi ?_|refine zb ?_|refine zl ?_)
     all_goals conv=>whnf
     all_goals rfl
  ·rw [if_neg h1]
   rw [h0] at H3 H1
   change FnOK _ _ _ (ret1 (askd n m)) at H3
   generalize askd n m=z at *
   repeat' ((conv=>whnf);first|(with_reducible first|refine br_t ?_|refine br_f ?_|refine za ?_|refine zg ?_|refine zo ?_)|rw [List.length_map]|refine zp ?_|refine zq ?_|(with_reducible first|refine bc (fun h => ?_) (fun h => ?_)|refine zt ?_|refine zf ?_|refine br_i (fun h => ?_) (fun h => ?_)|refine xi (pv_bool fun _=>nev23 _ _ _ _ _ _ _) ?_)|refine zg ?_|refine zi ?_|refine zb ?_|refine zl ?_)
   all_goals conv=>whnf
   all_goals rfl
 ·rw [if_neg h0]
  have e:orN (fchk l) (askd n m)=fchk l:=if_neg h0
  rw [e] at H3
  repeat' ((conv=>whnf);first|(with_reducible first|refine br_t ?_|refine br_f ?_|refine za ?_|refine zg ?_|refine zo ?_)|rw [List.length_map]|refine zp ?_|refine zq ?_|(with_reducible first|refine bc (fun h => ?_) (fun h => ?_)|refine zt ?_|refine zf ?_|refine br_i (fun h => ?_) (fun h => ?_)|refine xi (pv_bool fun _=>nev23 _ _ _ _ _ _ _) ?_)|refine zg ?_|refine zi ?_|refine zb ?_|refine zl ?_)
  all_goals conv=>whnf
  all_goals rfl
end Go.Proofs.YtddbmpbihpkabaaGreat

namespace Go.Proofs.YtddbmpbihpkabaaGreat
open Go.RowKit Go.Sort Sx
end Go.Proofs.YtddbmpbihpkabaaGreat

namespace Go.Proofs.YtddbmpbihpkabaaGreat
open Go Go.RowKit Go.Sort Sx
set_option maxRecDepth 2000
def ldP (l:List Pt) (n m:Int):Pt:=(srt n m l)[0]?.getD default
def askV (m:Md) (a:Ak):Md × Rp :=
 if formV a then
  (if a.k=1 then (if (putV m.l a.p).2=0 then (⟨m.n,m.d,(putV m.l a.p).1⟩,rp0) else (m,rpE (putV m.l a.p).2))
  else if a.k=2 then (if (takeV m.l a.id).2=0 then (⟨m.n,m.d,(takeV m.l a.id).1⟩,rp0) else (m,rpE (takeV m.l a.id).2))
  else if a.k=3 then (if (changeV m.l a.p).2=0 then (⟨m.n,m.d,(changeV m.l a.p).1⟩,rp0) else (m,rpE (changeV m.l a.p).2))
  else if a.k=4 then (if askd a.n a.d=0 then (if a.n*m.d≤m.n*a.d then (m,rpE 44) else (⟨a.n,a.d,m.l⟩,⟨0,0,0,0,0,btw (allM m.l) m.n m.d a.n a.d⟩)) else (m,rpE (askd a.n a.d)))
  else if a.k=5 then (if m.l.length=0 then (m,rpE 42) else (m,⟨0,(ldP m.l m.n m.d).id,0,(plc (ldP m.l m.n m.d) m.n m.d).1,(plc (ldP m.l m.n m.d) m.n m.d).2,[]⟩))
  else (m,⟨(closV m.l m.n m.d).2.2.2.2,(closV m.l m.n m.d).1,(closV m.l m.n m.d).2.1,(closV m.l m.n m.d).2.2.1,(closV m.l m.n m.d).2.2.2.1,[]⟩))
 else (m,rpE 12)
abbrev retA (x:Md × Rp):DV:=.tup [x.1.dc,x.2.dc]
theorem ldP_mem {l:List Pt} {n m:Int} (h:l.length≠0):ldP l n m∈l:=by
 have h0:0<(srt n m l).length:=by rw [srt_len];omega
 unfold ldP
 rw [List.getElem?_eq_getElem h0]
 exact (srt_perm n m l).mem_iff.1 (List.getElem_mem h0)
theorem pos_mem {l:List Pt} {p:Pt} (hs:incr l=true) (hp:p∈l):has l p.id=true∧l[pos l p.id]?.getD default=p:=by
 have hh:has l p.id=true:=List.any_eq_true.2 ⟨p,hp,by simp⟩
 refine ⟨hh,?_⟩
 obtain ⟨hlt,he⟩:=(has_pos hs).1 hh
 rw [List.getElem?_eq_getElem hlt]
 obtain ⟨k,hk,rfl⟩:=List.getElem_of_mem hp
 have:pos l l[k].id=k:=by
  rcases Nat.lt_trichotomy (pos l l[k].id) k with h|h|h
  ·have:=incr_lt hs k _ hk h;omega
  ·exact h
  ·have:=incr_lt hs _ k hlt h;omega
 show l[pos l l[k].id]=l[k]
 exact getElem_congr rfl this _
theorem leadV_ok {l:List Pt} {n m:Int} (h1:fchk l=0) (h2:chk n m=0):leadV l n m=if l.length=0 then (0,42) else ((ldP l n m).id,0):=by
 unfold leadV tchk ldP
 rw [if_pos h1,if_pos h2]
theorem oask_fn {m:Md} (hm:mchk m=0) (a:Ak):FnOK Tryz.prog 35 [m.dc,a.dc] (retA (askV m a)):=by
 obtain ⟨g1,g2⟩:=mchk_ok hm
 obtain ⟨k1,k2,k3⟩:=fchk_ok g2
 obtain ⟨t1,_,_,_,_⟩:=askd_ok g1
 have H0:=oformed_fn a
 have HC:=clonePt_own (m.l.map Pt.c) (by simp;omega)
 have HC':=ok_of_own HC
 have hk:formV a=true→a.k=1∨a.k=2∨a.k=3∨a.k=4∨a.k=5∨a.k=6:=fun h=>by
  unfold formV at h
  have:=of_decide_eq_true h
  omega
 unfold askV
 cases hf:formV a
 ·rw [hf] at H0
  rw [if_neg (by decide)]
  clear HC
  refine fn_ok (by kernel_rfl) ty_ok Tryz.func35 rfl (fun _ _=>Tryz.call35 _ _) rfl ?_
  intro hw
  clear hw
  exact zw
 ·rw [hf] at H0
  rw [if_pos rfl]
  rcases hk hf with h|h|h|h|h|h
  ·rw [if_pos h]
   have H1:=fPut_fn m.l a.p
   have H2:=oask1_mem (putV m.l a.p).1 (putV m.l a.p).2 rp0 m.n m.d m.l
   simp only [retFl] at H1
   simp only [Rp.c,rp0,mts,List.map_nil] at H2
   by_cases h0:(putV m.l a.p).2=0
   ·rw [if_pos h0] at H2 ⊢
    rw [h0] at H1 H2
    generalize (putV m.l a.p).1=f at *
    clear HC
    refine fn_ok (by kernel_rfl) (ty_okK [] [] [] [48]) Tryz.func35 rfl (fun _ _=>Tryz.call35 _ _) rfl ?_
    intro hw
    clear hw
    exact zw
   ·rw [if_neg h0] at H2 ⊢
    generalize (putV m.l a.p).1=f at *
    generalize (putV m.l a.p).2=z at *
    clear HC
    refine fn_ok (by kernel_rfl) (ty_okK [] [] [] [48]) Tryz.func35 rfl (fun _ _=>Tryz.call35 _ _) rfl ?_
    intro hw
    clear hw
    exact zw
  ·rw [if_neg (by omega),if_pos h]
   have H1:=fTake_fn m.l a.id
   have H2:=oask1_mem (takeV m.l a.id).1 (takeV m.l a.id).2 rp0 m.n m.d m.l
   simp only [retFl] at H1
   simp only [Rp.c,rp0,mts,List.map_nil] at H2
   by_cases h0:(takeV m.l a.id).2=0
   ·rw [if_pos h0] at H2 ⊢
    rw [h0] at H1 H2
    generalize (takeV m.l a.id).1=f at *
    clear HC
    refine fn_ok (by kernel_rfl) (ty_okK [] [] [] [48]) Tryz.func35 rfl (fun _ _=>Tryz.call35 _ _) rfl ?_
    intro hw
    clear hw
    exact zw
   ·rw [if_neg h0] at H2 ⊢
    generalize (takeV m.l a.id).1=f at *
    generalize (takeV m.l a.id).2=z at *
    clear HC
    refine fn_ok (by kernel_rfl) (ty_okK [] [] [] [48]) Tryz.func35 rfl (fun _ _=>Tryz.call35 _ _) rfl ?_
    intro hw
    clear hw
    exact zw
  ·rw [if_neg (by omega),if_neg (by omega),if_pos h]
   have H1:=fChange_fn m.l a.p
   have H2:=oask1_mem (changeV m.l a.p).1 (changeV m.l a.p).2 rp0 m.n m.d m.l
   simp only [retFl] at H1
   simp only [Rp.c,rp0,mts,List.map_nil] at H2
   by_cases h0:(changeV m.l a.p).2=0
   ·rw [if_pos h0] at H2 ⊢
    rw [h0] at H1 H2
    generalize (changeV m.l a.p).1=f at *
    clear HC
    refine fn_ok (by kernel_rfl) (ty_okK [] [] [] [48]) Tryz.func35 rfl (fun _ _=>Tryz.call35 _ _) rfl ?_
    intro hw
    clear hw
    exact zw
   ·rw [if_neg h0] at H2 ⊢
    generalize (changeV m.l a.p).1=f at *
    generalize (changeV m.l a.p).2=z at *
    clear HC
    refine fn_ok (by kernel_rfl) (ty_okK [] [] [] [48]) Tryz.func35 rfl (fun _ _=>Tryz.call35 _ _) rfl ?_
    intro hw
    clear hw
    exact zw
  ·rw [if_neg (by omega),if_neg (by omega),if_neg (by omega),if_pos h]
   have H1:=asked_fn a.n a.d
   by_cases h1:askd a.n a.d=0
   ·rw [if_pos h1]
    rw [h1] at H1
    have t2:=(askd_ok h1).1
    have H2:=cmp_fn a.n a.d m.n m.d
    unfold cmpV bth at H2
    rw [if_pos (by rw [t2,if_pos rfl,t1])] at H2
    by_cases h2:a.n*m.d≤m.n*a.d
    ·rw [if_pos h2]
     have h3:cmpN (a.n*m.d) (m.n*a.d)≤0:=by unfold cmpN;(repeat' split)<;>omega
     generalize cmpN (a.n*m.d) (m.n*a.d)=z at *
     simp only [ret2] at H2
     clear HC
     refine fn_ok (by kernel_rfl) ty_ok Tryz.func35 rfl (fun _ _=>Tryz.call35 _ _) rfl ?_
     intro hw
     clear hw
     exact zw
    ·rw [if_neg h2]
     have h3:¬ cmpN (a.n*m.d) (m.n*a.d)≤0:=by unfold cmpN;(repeat' split)<;>omega
     have H3:=mAll_fn m.l m.n m.d a.n a.d
     have h4:mchk2 m.l m.n m.d a.n a.d=0:=by unfold mchk2;rw [if_pos g2,if_pos t1,if_pos t2,if_neg (by omega)]
     unfold mallV at H3
     rw [if_pos h4] at H3
     generalize btw (allM m.l) m.n m.d a.n a.d=L at *
     generalize cmpN (a.n*m.d) (m.n*a.d)=z at *
     simp only [ret2] at H2
     simp only [retMts] at H3
     clear HC
     refine fn_ok (by kernel_rfl) ty_ok Tryz.func35 rfl (fun _ _=>Tryz.call35 _ _) rfl ?_
     intro hw
     clear hw
     exact zw
   ·rw [if_neg h1]
    generalize askd a.n a.d=z at *
    clear HC
    refine fn_ok (by kernel_rfl) ty_ok Tryz.func35 rfl (fun _ _=>Tryz.call35 _ _) rfl ?_
    intro hw
    clear hw
    exact zw
  ·rw [if_neg (by omega),if_neg (by omega),if_neg (by omega),if_neg (by omega),if_pos h]
   have H1:=fLeader_fn m.l m.n m.d
   rw [leadV_ok g2 t1] at H1
   by_cases h1:m.l.length=0
   ·rw [if_pos h1] at H1 ⊢
    clear HC
    refine fn_ok (by kernel_rfl) ty_ok Tryz.func35 rfl (fun _ _=>Tryz.call35 _ _) rfl ?_
    intro hw
    clear hw
    exact zw
   ·rw [if_neg h1] at H1 ⊢
    have hmem:=ldP_mem (n:=m.n) (m:=m.d) h1
    obtain ⟨p1,p2⟩:=pos_mem k3 hmem
    have H2:=fFind_fn m.l (ldP m.l m.n m.d).id
    unfold findV at H2
    rw [if_pos g2,if_pos p1,p2] at H2
    have H3:=kAt_fn (ldP m.l m.n m.d).id (ldP m.l m.n m.d).a (ldP m.l m.n m.d).b m.n m.d
    rw [(plc_ok (k2 _ hmem) g1).1] at H3
    simp only [ret3] at H3
    simp only [ret2] at H1
    generalize ldP m.l m.n m.d=p at *
    clear HC
    refine fn_ok (by kernel_rfl) ty_ok Tryz.func35 rfl (fun _ _=>Tryz.call35 _ _) rfl ?_
    intro hw
    clear hw
    exact zw
  ·rw [if_neg (by omega),if_neg (by omega),if_neg (by omega),if_neg (by omega),if_neg (by omega)]
   have H1:=oClosest_fn m.l m.n m.d
   generalize closV m.l m.n m.d=x at *
   clear HC
   refine fn_ok (by kernel_rfl) ty_ok Tryz.func35 rfl (fun _ _=>Tryz.call35 _ _) rfl ?_
   intro hw
   clear hw
   exact zw
end Go.Proofs.YtddbmpbihpkabaaGreat

namespace Go.Proofs.YtddbmpbihpkabaaGreat
open Go Go.RowKit Go.Sort Sx
set_option maxRecDepth 2000
theorem rmBefore_fn {a b:Mt} (h1:chk a.n a.d=0) (h2:chk b.n b.d=0):FnOK Tryz.prog 156 [a.dc,b.dc] (.c (.one (bol (decide (mlt a b))))):=by
 have H:=rcompare_fn a.n a.d b.n b.d
 have q1:=qv_ltM h1 h2
 have q2:=qv_ltM h2 h1
 have e:cmpN (a.n*b.d) (b.n*a.d) = -1∧mlt a b∨cmpN (a.n*b.d) (b.n*a.d)=1∧¬ mlt a b∨cmpN (a.n*b.d) (b.n*a.d)=0∧(mlt a b↔(a.i<b.i∨a.i=b.i∧a.j<b.j)):=by
  unfold cmpN mlt
  by_cases c1:a.n*b.d<b.n*a.d
  ·exact .inl ⟨if_pos c1,.inl (q1.2 c1)⟩
  ·by_cases c2:a.n*b.d > b.n*a.d
   ·have k:=q2.2 c2
    exact .inr (.inl ⟨by rw [if_neg c1,if_pos c2],fun h=>h.elim (fun h=>c1 (q1.1 h)) fun h=>by rw [h.1] at k;exact Rat.lt_irrefl k⟩)
   ·have k:qv a.n a.d=qv b.n b.d:=Rat.le_antisymm (Rat.not_lt.1 fun h=>c2 (q2.1 h)) (Rat.not_lt.1 fun h=>c1 (q1.1 h))
    refine .inr (.inr ⟨by rw [if_neg c1,if_neg c2],?_⟩)
    rw [k]
    have:=Rat.lt_irrefl (a:=qv b.n b.d)
    simp only [this,false_or,true_and]
 generalize cmpN (a.n*b.d) (b.n*a.d)=z at *
 simp only [ret1] at H
 rcases e with ⟨rfl,e⟩|⟨rfl,e⟩|⟨rfl,e⟩
 ·rw [decide_eq_true e]
  refine fn_ok (by kernel_rfl) ty_ok Tryz.func156 rfl (fun _ _=>Tryz.call156 _ _) rfl ?_
  intro hw
  clear hw q1 q2
  exact zw
 ·rw [decide_eq_false e]
  refine fn_ok (by kernel_rfl) ty_ok Tryz.func156 rfl (fun _ _=>Tryz.call156 _ _) rfl ?_
  intro hw
  clear hw q1 q2
  exact zw
 ·refine fn_ok (by kernel_rfl) ty_ok Tryz.func156 rfl (fun _ _=>Tryz.call156 _ _) rfl ?_
  intro hw
  clear hw q1 q2
  repeat' ((conv=>whnf);first|(with_reducible first|refine br_t ?_|refine br_f ?_|refine za ?_|refine zg ?_)|refine zp ?_|refine zq ?_|(with_reducible first|refine bc (fun h => ?_) (fun h => ?_)|refine zt ?_|refine zf ?_|refine br_i (fun h => ?_) (fun h => ?_))|refine zg ?_|refine zi ?_|refine zb ?_)
  all_goals conv=>whnf
  all_goals
   refine r_bool ?_
   rw [decide_eq_decide,e]
   omega
def inP (l:List Pt) (i k:Nat) (h:i<l.length):List (Pt × Pt):=preP l i++((l.drop (i+1)).take (k-(i+1))).map (fun q=>(l[i],q))
theorem inP_next {l:List Pt} {i k:Nat} (h:i<l.length) (hk:k<l.length) (hik:i<k):inP l i (k+1) h=inP l i k h++[(l[i],l[k])]:=by
 unfold inP
 rw [List.append_assoc]
 congr 1
 rw [show k+1-(i+1)=(k-(i+1))+1 by omega,List.take_succ_eq_append_getElem (by rw [List.length_drop];omega),List.map_append,List.getElem_drop]
 simp only [List.map_cons,List.map_nil,show i+1+(k-(i+1))=k by omega]
theorem inP_len {l:List Pt} {i k:Nat} (h:i<l.length) (hl:l.length≤64):(outs (inP l i k h)).length≤10000:=by
 refine Nat.le_trans (outs_len _) ?_
 have h1:=preP_split (l:=l) (i:=i+1) (by omega)
 have h2:=pairs_len l
 have h3:l.length*l.length≤64*64:=Nat.mul_le_mul hl hl
 have h4:=congrArg List.length h1
 rw [preP_succ h] at h4
 unfold inP
 simp only [List.length_append,List.length_map,List.length_take,List.length_drop] at *
 omega
structure InsO (L0:List Mt) (i:Nat) (L:List Mt):Prop where
 p:L.Perm L0
 o:∀ a b (h:a<b) (hb:b<L.length),b<i→¬ mlt L[b] L[a]
structure InsI (L0:List Mt) (i k:Nat) (L:List Mt):Prop where
 p:L.Perm L0
 hk:k≤i
 hi:i<L.length
 o:∀ a b (h:a<b) (hb:b<L.length),b≤i→b≠k→¬ mlt L[b] L[a]
def swp (L:List Mt) (k:Nat) (h:k<L.length):List Mt:=(L.set k L[k-1]).set (k-1) L[k]
theorem swp_len {L:List Mt} {k:Nat} (h:k<L.length):(swp L k h).length=L.length:=by simp [swp]
theorem swp_get {L:List Mt} {k:Nat} (h:k<L.length) (h0:0<k) {b:Nat} (hb:b<(swp L k h).length) :
  (swp L k h)[b]=if b=k-1 then L[k] else if b=k then L[k-1] else L[b]'(by rw [swp_len] at hb;exact hb):=by
 simp only [swp,List.getElem_set,eq_comm (b:=b)]
theorem swap_at {x y:Mt} {l r:List Mt}:(l++y::x::r).Perm (l++x::y::r):=List.Perm.append_left l (List.Perm.swap ..)
theorem swp_perm {L:List Mt} {k:Nat} (h:k<L.length) (h0:0<k):(swp L k h).Perm L:=by
 obtain ⟨j,rfl⟩:∃ j,k=j+1:=⟨k-1,by omega⟩
 have e1:L=L.take j++L[j]::L[j+1]::L.drop (j+2):=by
  rw [← List.drop_eq_getElem_cons h,← List.drop_eq_getElem_cons (by omega),List.take_append_drop]
 have e2:swp L (j+1) h=L.take j++L[j+1]::L[j]::L.drop (j+2):=by
  refine List.ext_getElem (by rw [swp_len];simp;omega) fun b h1 h2 => ?_
  rw [swp_get h h0]
  rw [swp_len] at h1
  simp only [Nat.add_sub_cancel]
  rcases Nat.lt_trichotomy b j with c|c|c
  ·rw [if_neg (by omega),if_neg (by omega),List.getElem_append_left (by simp;omega),List.getElem_take]
  ·subst c
   have hm:min b L.length=b:=Nat.min_eq_left (by omega)
   rw [if_pos rfl,List.getElem_append_right (by rw [List.length_take];omega)]
   simp only [List.length_take,hm,Nat.sub_self,List.getElem_cons_zero]
  ·rw [if_neg (by omega),List.getElem_append_right (by simp;omega)]
   by_cases c1:b=j+1
   ·subst c1
    have key:∀ q,q=1→∀ (hq:q<(L[j+1]::L[j]::List.drop (j+2) L).length),(L[j+1]::L[j]::List.drop (j+2) L)[q]=L[j]:=by rintro _ rfl _;rfl
    rw [if_pos rfl]
    exact (key _ (by rw [List.length_take];omega) _).symm
   ·obtain ⟨d,rfl⟩:∃ d,b=j+(d+2):=⟨b-j-2,by omega⟩
    rw [if_neg c1]
    simp only [List.length_take,Nat.min_eq_left (show j≤L.length by omega),Nat.add_sub_cancel_left,List.getElem_cons_succ,List.getElem_drop]
    exact getElem_congr rfl (by omega) _
 rw [e2]
 conv=>rhs;rw [e1]
 exact swap_at
theorem InsI.start {L0 L:List Mt} {i:Nat} (H:InsO L0 i L) (h:i<L.length):InsI L0 i i L:=⟨H.p,Nat.le_refl _,h,fun a b h hb h1 h2=>H.o a b h hb (by omega)⟩
theorem InsI.stop0 {L0 L:List Mt} {i:Nat} (H:InsI L0 i 0 L):InsO L0 (i+1) L:=⟨H.p,fun a b h hb h1=>H.o a b h hb (by omega) (by omega)⟩
theorem InsI.stop {L0 L:List Mt} {i k:Nat} (H:InsI L0 i k L) (h0:0<k) (hn:¬ mlt (L[k]'(Nat.lt_of_le_of_lt H.hk H.hi)) (L[k-1]'(by have:=H.hk;have:=H.hi;omega))):InsO L0 (i+1) L:=by
 refine ⟨H.p,fun a b h hb h1 => ?_⟩
 by_cases hbk:b=k
 ·subst hbk
  by_cases ha:a=b-1
  ·subst ha;exact hn
  ·exact mlt_neg (H.o a (b-1) (by omega) (by omega) (by omega) (by omega)) hn
 ·exact H.o a b h hb (by omega) hbk
theorem InsI.next {L0 L:List Mt} {i k:Nat} (H:InsI L0 i k L) (h0:0<k) (hl:mlt (L[k]'(Nat.lt_of_le_of_lt H.hk H.hi)) (L[k-1]'(by have:=H.hk;have:=H.hi;omega))):InsI L0 i (k-1) (swp L k (Nat.lt_of_le_of_lt H.hk H.hi)):=by
 have hk:=H.hk
 have hi:=H.hi
 refine ⟨(List.Perm.trans ?_ H.p),by omega,by rw [swp_len];exact hi,fun a b h hb h1 h2 => ?_⟩
 ·exact swp_perm _ h0
 ·have hb':=hb
  rw [swp_len] at hb'
  rw [swp_get _ h0,swp_get _ h0]
  rw [if_neg h2]
  by_cases c1:b=k
  ·rw [if_pos c1]
   by_cases c2:a=k-1
   ·rw [if_pos c2];exact fun h=>mlt_asymm h hl
   ·rw [if_neg c2,if_neg (by omega)]
    exact H.o a (k-1) (by omega) (by omega) (by omega) (by omega)
  ·rw [if_neg c1]
   by_cases c2:a=k-1
   ·rw [if_pos c2]
    exact H.o k b (by omega) hb' h1 c1
   ·rw [if_neg c2]
    by_cases c3:a=k
    ·rw [if_pos c3]
     exact H.o (k-1) b (by omega) hb' h1 c1
    ·rw [if_neg c3]
     exact H.o a b h hb' h1 c1
theorem InsO.done {L0 L:List Mt} {i:Nat} (H:InsO L0 i L) (hok:∀ m∈L0,chk m.n m.d=0) (hi:L.length≤i):L=msrt L0:=by
 refine List.Perm.eq_of_pairwise (le:=fun a b=>¬ mlt b a) (fun a b ha hb h1 h2 => ?_) ?_ (msrt_sorted L0) (H.p.trans (msrt_perm L0).symm)
 ·exact mlt_eq (hok a (H.p.mem_iff.1 ha)) (hok b (msrt_mem.1 hb)) h2 h1
 ·exact List.pairwise_iff_getElem.2 fun a b ha hb h=>H.o a b h hb (by omega)
set_option maxHeartbeats 2000000 in
theorem rmPairs_fn {l:List Pt} (hv:fchk l=0):FnOK Tryz.prog 129 [fld l] (.c (.one (mts (allM l)))):=by
 obtain ⟨k1,k2,k3⟩:=fchk_ok hv
 refine fn_ok (by kernel_rfl) (ty_okK [3,51] [] [] []) Tryz.func129 rfl (fun _ _=>Tryz.call129 _ _) rfl ?_
 intro hw
 clear hw
 repeat' ((conv=>whnf);first|(with_reducible first|refine br_t ?_|refine br_f ?_|refine za ?_|refine zg ?_|refine zo ?_)|rw [List.length_map]|refine zp ?_|refine zq ?_|(with_reducible first|refine bc (fun h => ?_) (fun h => ?_)|refine zt ?_|refine zf ?_|refine br_i (fun h => ?_) (fun h => ?_))|refine zg ?_|refine zi ?_|refine zb ?_|refine zl ?_)
 refine loop_J (by kernel_rfl) (ty_okK [3,51] [] [] []) (σ:=Nat) (fun i=>[(4,sV (.int .i64 i)),(3,.c (.at (.osl 3 0)))]) (fun i=>[(3,.row 4 ((outs (preP l i)).map Mt.c) 0)]) (fun i=>i≤l.length) (fun i=>l.length-i) 0 (Nat.zero_le _) ?_ ?_
 ·(conv=>whnf);refine ⟨by repeat' (first|with_reducible exact zE0|with_reducible refine zE1 ?_ ?_|rfl|assumption|((cases l<;>rfl))|exact zi1|exact zb1),by repeat' (first|with_reducible exact zH0|with_reducible refine zH1 ?_ ?_|rfl|assumption|((cases l<;>rfl))),rfl⟩
 intro i hi
 rcases Nat.lt_or_ge i l.length with hlt|hge
 ·have hel:=pts_get hlt
  repeat' ((conv=>whnf);first|(with_reducible first|refine br_t ?_|refine br_f ?_|refine za ?_|refine zg ?_|refine zo ?_)|rw [List.length_map]|refine zp ?_|refine zq ?_|(with_reducible first|refine bc (fun h => ?_) (fun h => ?_)|refine zt ?_|refine zf ?_|refine br_i (fun h => ?_) (fun h => ?_))|refine zg ?_|refine zi ?_|refine zb ?_|refine zl ?_)
  refine loop_J (by kernel_rfl) (ty_okK [3,51] [] [] []) (σ:=Nat) (fun k=>[(5,sV (.int .i64 k)),(3,.c (.at (.osl 3 0)))]) (fun k=>[(3,.row 4 ((outs (inP l i k hlt)).map Mt.c) 0)]) (fun k=>i<k∧k≤l.length) (fun k=>l.length-k) (i+1) ⟨Nat.lt_succ_self _,hlt⟩ ?_ ?_
  ·have e0:inP l i (i+1) hlt=preP l i:=by unfold inP;simp
   (conv=>whnf);refine ⟨by repeat' (first|with_reducible exact zE0|with_reducible refine zE1 ?_ ?_|rfl|assumption|((exact congrArg (fun x=>some (Blk.row 4 ((outs x).map Mt.c) 0)) e0.symm))|exact zi1|exact zb1),by repeat' (first|with_reducible exact zH0|with_reducible refine zH1 ?_ ?_|rfl|assumption|((exact congrArg (fun x=>some (Blk.row 4 ((outs x).map Mt.c) 0)) e0.symm))),rfl⟩
  rintro k ⟨hik,hk⟩
  rcases Nat.lt_or_ge k l.length with hklt|hkge
  ·have hel2:=pts_get hklt
   have hlen:=inP_len (k:=k) hlt k1
   have hsn:outs (inP l i (k+1) hlt)=outs (inP l i k hlt)++(meet1 (l[i],l[k])).toList:=by rw [inP_next hlt hklt hik,outs_snoc]
   have hne:l[i].id≠l[k].id:=by have:=incr_lt k3 k i hklt hik;omega
   have HM:=kkMet_fn l[i].id l[i].a l[i].b l[k].id l[k].a l[k].b (k2 _ (List.getElem_mem hlt)) (k2 _ (List.getElem_mem hklt))
   rcases meet_cases (k2 _ (List.getElem_mem hlt)) (k2 _ (List.getElem_mem hklt)) hne with ⟨hb,e⟩|⟨hb,e,_⟩
   ·rw [e] at hsn
    clear HM
    repeat' ((conv=>whnf);first|(with_reducible first|refine br_t ?_|refine br_f ?_|refine za ?_|refine zg ?_|refine zo ?_)|rw [List.length_map]|refine zp ?_|refine zq ?_|(with_reducible first|refine bc (fun h => ?_) (fun h => ?_)|refine zt ?_|refine zf ?_|refine br_i (fun h => ?_) (fun h => ?_))|refine zg ?_|refine zi ?_|refine zb ?_|refine zl ?_)
    all_goals conv=>whnf
    refine ⟨k+1,⟨by omega,by omega⟩,?_,by omega⟩
    (conv=>whnf);refine ⟨by repeat' (first|with_reducible exact zE0|with_reducible refine zE1 ?_ ?_|rfl|assumption|((exact congrArg (fun x=>some (Blk.row 4 (x.map Mt.c) 0)) (hsn.trans (List.append_nil _)).symm))|exact zi1|exact zb1),by repeat' (first|with_reducible exact zH0|with_reducible refine zH1 ?_ ?_|rfl|assumption|((exact congrArg (fun x=>some (Blk.row 4 (x.map Mt.c) 0)) (hsn.trans (List.append_nil _)).symm))),rfl⟩
   ·rw [e] at hsn
    generalize makeV (l[i].a-l[k].a) (l[k].b-l[i].b)=mv at *
    have ha:(outs (inP l i k hlt)).map Mt.c++[[i64 mv.1,i64 mv.2.1,i64 l[i].id,i64 l[k].id]]=(outs (inP l i (k+1) hlt)).map Mt.c:=by rw [hsn,List.map_append];rfl
    generalize outs (inP l i k hlt)=o at *
    have hol:(o.map Mt.c).length=o.length:=List.length_map ..
    repeat' ((conv=>whnf);first|(with_reducible first|refine br_t ?_|refine br_f ?_|refine za ?_|refine zg ?_|refine zo ?_)|rw [List.length_map]|refine zp ?_|refine zq ?_|(with_reducible first|refine bc (fun h => ?_) (fun h => ?_)|refine zt ?_|refine zf ?_|refine br_i (fun h => ?_) (fun h => ?_))|refine zg ?_|refine zi ?_|refine zb ?_|refine zl ?_)
    all_goals conv=>whnf
    refine ⟨k+1,⟨by omega,by omega⟩,?_,by omega⟩
    (conv=>whnf);refine ⟨by repeat' (first|with_reducible exact zE0|with_reducible refine zE1 ?_ ?_|rfl|assumption|((exact congrArg (fun x=>some (Blk.row 4 x 0)) ha))|exact zi1|exact zb1),by repeat' (first|with_reducible exact zH0|with_reducible refine zH1 ?_ ?_|rfl|assumption|((exact congrArg (fun x=>some (Blk.row 4 x 0)) ha))),rfl⟩
  ·obtain rfl:k=l.length:=by omega
   repeat' ((conv=>whnf);first|(with_reducible first|refine br_t ?_|refine br_f ?_|refine za ?_|refine zg ?_|refine zo ?_)|rw [List.length_map]|refine zp ?_|refine zq ?_|(with_reducible first|refine bc (fun h => ?_) (fun h => ?_)|refine zt ?_|refine zf ?_|refine br_i (fun h => ?_) (fun h => ?_))|refine zg ?_|refine zi ?_|refine zb ?_|refine zl ?_)
   all_goals conv=>whnf
   refine ⟨i+1,hlt,?_,by omega⟩
   have e:inP l i l.length hlt=preP l (i+1):=by
    rw [preP_succ hlt];unfold inP;rw [List.take_of_length_le (by rw [List.length_drop];omega)]
   (conv=>whnf);refine ⟨by repeat' (first|with_reducible exact zE0|with_reducible refine zE1 ?_ ?_|rfl|assumption|((exact congrArg (fun x=>some (Blk.row 4 ((outs x).map Mt.c) 0)) e))|exact zi1|exact zb1),by repeat' (first|with_reducible exact zH0|with_reducible refine zH1 ?_ ?_|rfl|assumption|((exact congrArg (fun x=>some (Blk.row 4 ((outs x).map Mt.c) 0)) e))),rfl⟩
 ·obtain rfl:i=l.length:=by omega
  rw [preP_all]
  have hok:∀ m∈outs (pairsOf l),chk m.n m.d=0:=fun m hm=>(outs_ok hv m hm).1.1
  have hln:=outs_len2 k1
  unfold allM
  generalize outs (pairsOf l)=L0 at *
  have hol:(L0.map Mt.c).length=L0.length:=List.length_map ..
  repeat' ((conv=>whnf);first|(with_reducible first|refine br_t ?_|refine br_f ?_|refine za ?_|refine zg ?_|refine zo ?_)|rw [List.length_map]|refine zp ?_|refine zq ?_|(with_reducible first|refine bc (fun h => ?_) (fun h => ?_)|refine zt ?_|refine zf ?_|refine br_i (fun h => ?_) (fun h => ?_))|refine zg ?_|refine zi ?_|refine zb ?_|refine zl ?_)
  refine loop_J (by kernel_rfl) (ty_okK [3,51] [] [] []) (σ:=Nat × List Mt) (fun s=>[(8,sV (.int .i64 s.1)),(3,.c (.at (.osl 3 0)))]) (fun s=>[(3,.row 4 (s.2.map Mt.c) 0)]) (fun s=>1≤s.1∧s.1≤L0.length+1∧InsO L0 s.1 s.2) (fun s=>L0.length+1-s.1) (1,L0) ⟨Nat.le_refl _,Nat.le_add_left ..,.refl _,fun a b h hb h1=>by omega⟩ ?_ ?_
  ·(conv=>whnf);exact zent
  rintro ⟨i,L⟩ ⟨hi1,hi2,HI⟩
  dsimp only at hi1 hi2 HI
  have hLl:L.length=L0.length:=HI.p.length_eq
  have hLl2:((i,L):Nat × List Mt).snd.length=L0.length:=hLl
  have hLl3:(L.map Mt.c).length=L0.length:=(List.length_map ..).trans hLl
  rcases Nat.lt_or_ge i L.length with hlt|hge
  ·repeat' ((conv=>whnf);first|(with_reducible first|refine br_t ?_|refine br_f ?_|refine za ?_|refine zg ?_|refine zo ?_)|rw [List.length_map]|refine zp ?_|refine zq ?_|(with_reducible first|refine bc (fun h => ?_) (fun h => ?_)|refine zt ?_|refine zf ?_|refine br_i (fun h => ?_) (fun h => ?_))|refine zg ?_|refine zi ?_|refine zb ?_|refine zl ?_)
   refine loop_J (by kernel_rfl) (ty_okK [3,51] [] [] []) (σ:=Nat × List Mt) (fun s=>[(9,sV (.int .i64 s.1)),(3,.c (.at (.osl 3 0)))]) (fun s=>[(3,.row 4 (s.2.map Mt.c) 0)]) (fun s=>InsI L0 i s.1 s.2) (fun s=>s.1) (i,L) (InsI.start HI hlt) ?_ ?_
   ·(conv=>whnf);exact zent
   rintro ⟨k,M⟩ HK
   dsimp only at HK
   have hMl:M.length=L0.length:=HK.p.length_eq
   have hMl2:((k,M):Nat × List Mt).snd.length=L0.length:=hMl
   have hki:=HK.hk
   rcases Nat.eq_zero_or_pos k with rfl|h0
   ·repeat' ((conv=>whnf);first|(with_reducible first|refine br_t ?_|refine br_f ?_|refine za ?_|refine zg ?_|refine zo ?_)|rw [List.length_map]|refine zp ?_|refine zq ?_|(with_reducible first|refine bc (fun h => ?_) (fun h => ?_)|refine zt ?_|refine zf ?_|refine br_i (fun h => ?_) (fun h => ?_))|refine zg ?_|refine zi ?_|refine zb ?_|refine zl ?_)
    all_goals conv=>whnf
    refine ⟨(i+1,M),⟨by omega,by omega,HK.stop0⟩,?_,by simp only;omega⟩
    (conv=>whnf);exact zent
   ·have hkM:k<M.length:=by omega
    have hel1:=mts_get hkM
    have ew:IntKind.i64.wrap ((k:Int)-1)=((k-1:Nat):Int):=by rw [IntWalk.i64_in _ (by omega)];omega
    have hel2:(M.map Mt.c)[(IntKind.i64.wrap ((k:Int)-1)).toNat]? = some [i64 M[k-1].n,i64 M[k-1].d,i64 M[k-1].i,i64 M[k-1].j]:=by
     rw [ew];exact (mts_get (l:=M) (i:=k-1) (by omega))
    have HB:=rmBefore_fn (hok _ (HK.p.mem_iff.1 (List.getElem_mem hkM))) (hok _ (HK.p.mem_iff.1 (List.getElem_mem (show k-1<M.length by omega))))
    by_cases hm:mlt M[k] M[k-1]
    ·have HN:=HK.next h0 hm
     rw [decide_eq_true hm] at HB
     have hset:((M.map Mt.c).set ((k:Nat):Int).toNat [i64 M[k-1].n,i64 M[k-1].d,i64 M[k-1].i,i64 M[k-1].j]).set (IntKind.i64.wrap ((k:Int)-1)).toNat [i64 M[k].n,i64 M[k].d,i64 M[k].i,i64 M[k].j]=(swp M k hkM).map Mt.c:=by
      rw [ew,Int.toNat_natCast,Int.toNat_natCast]
      unfold swp
      rw [List.map_set,List.map_set]
      rfl
     generalize M[k]=mk,M[k-1]=mj at *
     have hel3:((M.map Mt.c).set ((k:Nat):Int).toNat [i64 mj.n,i64 mj.d,i64 mj.i,i64 mj.j])[(IntKind.i64.wrap ((k:Int)-1)).toNat]? = some [i64 mj.n,i64 mj.d,i64 mj.i,i64 mj.j]:=by
      rw [List.getElem?_set_ne (by rw [ew];omega)];exact hel2
     repeat' ((conv=>whnf);first|(with_reducible first|refine br_t ?_|refine br_f ?_|refine za ?_|refine zg ?_|refine zo ?_)|refine And.intro (by rw [ew];omega) ?_|refine ⟨_,⟨hel3,by decide⟩,?_⟩|simp only [List.length_map,List.length_set]|refine zp ?_|refine zq ?_|(with_reducible first|refine bc (fun h => ?_) (fun h => ?_)|refine zt ?_|refine zf ?_|refine br_i (fun h => ?_) (fun h => ?_))|refine zg ?_|refine zi ?_|refine zb ?_|refine zl ?_)
     all_goals conv=>whnf
     refine ⟨(k-1,swp M k hkM),HN,?_,by simp only;omega⟩
     (conv=>whnf);refine ⟨by repeat' (first|with_reducible exact zE0|with_reducible refine zE1 ?_ ?_|rfl|assumption|((exact congrArg (fun x=>some (Blk.row 4 x 0)) hset))|exact zi1|exact zb1),by repeat' (first|with_reducible exact zH0|with_reducible refine zH1 ?_ ?_|rfl|assumption|((exact congrArg (fun x=>some (Blk.row 4 x 0)) hset))),rfl⟩
    ·have HN:=HK.stop h0 hm
     rw [decide_eq_false hm] at HB
     generalize M[k]=mk,M[k-1]=mj at *
     repeat' ((conv=>whnf);first|(with_reducible first|refine br_t ?_|refine br_f ?_|refine za ?_|refine zg ?_|refine zo ?_)|refine And.intro (by rw [ew];omega) ?_|rw [List.length_map]|refine zp ?_|refine zq ?_|(with_reducible first|refine bc (fun h => ?_) (fun h => ?_)|refine zt ?_|refine zf ?_|refine br_i (fun h => ?_) (fun h => ?_))|refine zg ?_|refine zi ?_|refine zb ?_|refine zl ?_)
     all_goals conv=>whnf
     refine ⟨(i+1,M),⟨by omega,by omega,HN⟩,?_,by simp only;omega⟩
     (conv=>whnf);exact zent
  ·have e:=HI.done hok hge
   subst e
   repeat' ((conv=>whnf);first|(with_reducible first|refine br_t ?_|refine br_f ?_|refine za ?_|refine zg ?_|refine zo ?_)|rw [List.length_map]|refine zp ?_|refine zq ?_|(with_reducible first|refine bc (fun h => ?_) (fun h => ?_)|refine zt ?_|refine zf ?_|refine br_i (fun h => ?_) (fun h => ?_))|refine zg ?_|refine zi ?_|refine zb ?_|refine zl ?_)
   all_goals conv=>whnf
   all_goals rfl
end Go.Proofs.YtddbmpbihpkabaaGreat

namespace Go.Proofs.YtddbmpbihpkabaaGreat
open Go Go.RowKit Go.Sort Sx
set_option maxRecDepth 2000
theorem wd_mts {l:List Mt} (h:WD (mts l)):l.length≤9223372036854775807:=by
 obtain ⟨h1,_,h3⟩:=WD_list.1 h
 simpa using h1
theorem Mt.eq_iff {p q:Mt}:p=q↔p.n=q.n∧p.d=q.d∧p.i=q.i∧p.j=q.j:=by
 cases p;cases q;simp
theorem bcnt_ge {l:List Mt} (hs:Asc l) {n e:Int} (h1:chk n e=0) {k:Nat} (h:k<l.length) (hk:bcnt l n e≤k):n*l[k].d<l[k].n*e:=by
 have hb:bcnt l n e<l.length:=by omega
 have q1:=(qv_ltM h1 (hs.ok _ hb)).2 (bcnt_at hb)
 refine (qv_ltM h1 (hs.ok _ h)).1 ?_
 rcases Nat.eq_or_lt_of_le hk with e|hlt
 ·subst e;exact q1
 ·exact Std.lt_of_lt_of_le q1 (hs.up k _ h hlt)
def inT (n e r t:Int) (m:Mt):Bool:=decide (n*m.d<m.n*e) && !decide (r*m.d<m.n*t)
theorem btw_filter {l:List Mt} (hs:Asc l) {n e r t:Int} (h1:chk n e=0) (h2:chk r t=0) (h:¬ r*e<n*t):l.filter (inT n e r t)=btw l n e r t:=by
 have hm:=bcnt_mono hs h1 h2 h
 have hb:=bcnt_le l r t
 have g1:=fun k (hk:k<l.length)=>bcnt_lt (n:=n) (e:=e) hk
 have g2:=fun k (hk:k<l.length)=>bcnt_lt (n:=r) (e:=t) hk
 have g3:=fun k (hk:k<l.length)=>bcnt_ge hs h1 hk
 have g4:=fun k (hk:k<l.length)=>bcnt_ge hs h2 hk
 unfold btw
 generalize bcnt l n e=a at *
 generalize bcnt l r t=b at *
 have e1:l=l.take a++((l.take b).drop a++l.drop b):=by
  conv=>lhs;rw [← List.take_append_drop a l,← List.take_append_drop (b-a) (l.drop a)]
  rw [List.drop_take,List.drop_drop,show a+(b-a)=b by omega]
 conv=>lhs;rw [e1]
 rw [List.filter_append,List.filter_append,List.filter_eq_nil_iff.2,List.filter_eq_self.2,List.filter_eq_nil_iff.2,List.append_nil,List.nil_append]
 ·intro m hm
  obtain ⟨k,hk,rfl⟩:=List.mem_iff_getElem.1 hm
  rw [List.getElem_drop]
  simp only [List.length_drop] at hk
  unfold inT
  rw [decide_eq_true (g4 _ (by omega) (by omega))]
  simp
 ·intro m hm
  obtain ⟨k,hk,rfl⟩:=List.mem_iff_getElem.1 hm
  simp only [List.length_drop,List.length_take] at hk
  rw [List.getElem_drop,List.getElem_take]
  unfold inT
  rw [decide_eq_true (g3 _ (by omega) (by omega)),decide_eq_false (g2 _ (by omega) (by omega))]
  rfl
 ·intro m hm
  obtain ⟨k,hk,rfl⟩:=List.mem_iff_getElem.1 hm
  simp only [List.length_take] at hk
  rw [List.getElem_take]
  unfold inT
  rw [decide_eq_false (g1 _ (by omega) (by omega))]
  simp
theorem filt_succ {α:Type} {l:List α} {f:α→Bool} {i:Nat} (h:i<l.length):(l.take (i+1)).filter f=(l.take i).filter f++if f l[i] then [l[i]] else []:=by
 rw [List.take_succ_eq_append_getElem h,List.filter_append,List.filter_cons,List.filter_nil]
theorem rmBetween_fn {l:List Pt} (hv:fchk l=0) {n e r t:Int} (h1:chk n e=0) (h2:chk r t=0) (h3:¬ r*e<n*t):FnOK Tryz.prog 93 [fld l,rat n e,rat r t] (.c (.one (mts (btw (allM l) n e r t)))):=by
 have H1:=rmPairs_fn hv
 have hasc:=allM_asc hv
 have hlen:(allM l).length≤4096:=by rw [msrt_len];exact outs_len2 (fchk_ok hv).1
 have hok:=hasc.ok
 rw [← btw_filter hasc h1 h2 h3]
 clear hasc h3
 generalize allM l=L at *
 have hll:(L.map Mt.c).length=L.length:=List.length_map ..
 refine fn_ok (by kernel_rfl) (ty_okK [7,42] [] [] []) Tryz.func93 rfl (fun _ _=>Tryz.call93 _ _) rfl ?_
 intro hw
 clear hw
 have hfl:∀ i,((L.take i).filter (inT n e r t)).length≤L.length:=fun i=>by
  refine Nat.le_trans (List.length_filter_le ..) ?_
  simp;omega
 repeat' ((conv=>whnf);first|(with_reducible first|refine br_t ?_|refine br_f ?_|refine za ?_|refine zg ?_|refine zo ?_)|refine zp ?_|refine zq ?_|(with_reducible first|refine bc (fun h => ?_) (fun h => ?_)|refine zt ?_|refine zf ?_|refine br_i (fun h => ?_) (fun h => ?_))|refine zg ?_|refine zi ?_|refine zb ?_|refine zl ?_)
 refine loop_J (by kernel_rfl) (ty_okK [7,42] [] [] []) (σ:=Nat) (fun i=>[(9,sV (.int .i64 i)),(7,.c (.at (.osl 7 0)))]) (fun i=>[(7,.row 4 (((L.take i).filter (inT n e r t)).map Mt.c) 0)]) (fun i=>i≤L.length) (fun i=>L.length-i) 0 (Nat.zero_le _) ?_ ?_
 ·(conv=>whnf);exact zent
 intro i hi
 rcases Nat.lt_or_ge i L.length with hlt|hge
 ·have hel:=mts_get hlt
  have hs:=filt_succ (f:=inT n e r t) hlt
  have C1:=rcompare_fn L[i].n L[i].d n e
  have C2:=rcompare_fn L[i].n L[i].d r t
  have hfi:=hfl i
  have hfi1:=hfl (i+1)
  have hol:(((L.take i).filter (inT n e r t)).map Mt.c).length=((L.take i).filter (inT n e r t)).length:=List.length_map ..
  by_cases c1:n*L[i].d<L[i].n*e
  ·by_cases c2:r*L[i].d<L[i].n*t
   ·have e1:cmpN (L[i].n*t) (r*L[i].d)=1:=by unfold cmpN;rw [if_neg (by omega),if_pos c2]
    have e2:cmpN (L[i].n*e) (n*L[i].d)=1:=by unfold cmpN;rw [if_neg (by omega),if_pos c1]
    rw [e2] at C1
    rw [e1] at C2
    simp only [ret1] at C1 C2
    rw [inT,decide_eq_true c1,decide_eq_true c2] at hs
    generalize L[i]=m at *
    repeat' ((conv=>whnf);first|(with_reducible first|refine br_t ?_|refine br_f ?_|refine za ?_|refine zg ?_|refine zo ?_)|refine zp ?_|refine zq ?_|(with_reducible first|refine bc (fun h => ?_) (fun h => ?_)|refine zt ?_|refine zf ?_|refine br_i (fun h => ?_) (fun h => ?_))|refine zg ?_|refine zi ?_|refine zb ?_|refine zl ?_)
    all_goals conv=>whnf
    refine ⟨i+1,hlt,?_,by omega⟩
    (conv=>whnf);refine ⟨by repeat' (first|with_reducible exact zE0|with_reducible refine zE1 ?_ ?_|rfl|assumption|((exact congrArg (fun x=>some (Blk.row 4 (x.map Mt.c) 0)) (hs.trans (List.append_nil _)).symm))|exact zi1|exact zb1),by repeat' (first|with_reducible exact zH0|with_reducible refine zH1 ?_ ?_|rfl|assumption|((exact congrArg (fun x=>some (Blk.row 4 (x.map Mt.c) 0)) (hs.trans (List.append_nil _)).symm))),rfl⟩
   ·have e1:cmpN (L[i].n*t) (r*L[i].d)≤0:=by unfold cmpN;split<;>(try split)<;>omega
    have e2:cmpN (L[i].n*e) (n*L[i].d)=1:=by unfold cmpN;rw [if_neg (by omega),if_pos c1]
    rw [e2] at C1
    generalize cmpN (L[i].n*t) (r*L[i].d)=z at *
    simp only [ret1] at C1 C2
    rw [inT,decide_eq_true c1,decide_eq_false c2] at hs
    generalize L[i]=m at *
    have hs2:((L.take i).filter (inT n e r t)).map Mt.c++[[i64 m.n,i64 m.d,i64 m.i,i64 m.j]]=((L.take (i+1)).filter (inT n e r t)).map Mt.c:=by rw [hs,List.map_append];rfl
    repeat' ((conv=>whnf);first|(with_reducible first|refine br_t ?_|refine br_f ?_|refine za ?_|refine zg ?_|refine zo ?_)|rw [hol]|refine zp ?_|refine zq ?_|(with_reducible first|refine bc (fun h => ?_) (fun h => ?_)|refine zt ?_|refine zf ?_|refine br_i (fun h => ?_) (fun h => ?_))|refine zg ?_|refine zi ?_|refine zb ?_|refine zl ?_)
    all_goals conv=>whnf
    refine ⟨i+1,hlt,?_,by omega⟩
    (conv=>whnf);refine ⟨by repeat' (first|with_reducible exact zE0|with_reducible refine zE1 ?_ ?_|rfl|assumption|((exact congrArg (fun x=>some (Blk.row 4 x 0)) hs2))|exact zi1|exact zb1),by repeat' (first|with_reducible exact zH0|with_reducible refine zH1 ?_ ?_|rfl|assumption|((exact congrArg (fun x=>some (Blk.row 4 x 0)) hs2))),rfl⟩
  ·have e2:cmpN (L[i].n*e) (n*L[i].d)≤0:=by unfold cmpN;split<;>(try split)<;>omega
   generalize cmpN (L[i].n*e) (n*L[i].d)=z at *
   simp only [ret1] at C1 C2
   rw [inT,decide_eq_false c1] at hs
   generalize L[i]=m at *
   repeat' ((conv=>whnf);first|(with_reducible first|refine br_t ?_|refine br_f ?_|refine za ?_|refine zg ?_|refine zo ?_)|refine zp ?_|refine zq ?_|(with_reducible first|refine bc (fun h => ?_) (fun h => ?_)|refine zt ?_|refine zf ?_|refine br_i (fun h => ?_) (fun h => ?_))|refine zg ?_|refine zi ?_|refine zb ?_|refine zl ?_)
   all_goals conv=>whnf
   refine ⟨i+1,hlt,?_,by omega⟩
   (conv=>whnf);refine ⟨by repeat' (first|with_reducible exact zE0|with_reducible refine zE1 ?_ ?_|rfl|assumption|((exact congrArg (fun x=>some (Blk.row 4 (x.map Mt.c) 0)) (hs.trans (List.append_nil _)).symm))|exact zi1|exact zb1),by repeat' (first|with_reducible exact zH0|with_reducible refine zH1 ?_ ?_|rfl|assumption|((exact congrArg (fun x=>some (Blk.row 4 (x.map Mt.c) 0)) (hs.trans (List.append_nil _)).symm))),rfl⟩
 ·obtain rfl:i=L.length:=by omega
  rw [List.take_of_length_le (Nat.le_refl _)] at *
  exact zw
theorem eqMt_fn (a b:List Mt):FnOK Tryz.prog 102 [.one (mts a),.one (mts b)] (.c (.one (bol (decide (a=b))))):=by
 refine fn_ok (by kernel_rfl) ty_ok Tryz.func102 rfl (fun _ _=>Tryz.call102 _ _) rfl ?_
 intro hw
 simp only [WDCs,WDC,WDs] at hw
 have w1:=wd_mts hw.1
 have w2:=wd_mts hw.2.1
 clear hw
 by_cases h0:a.length=b.length
 ·repeat' ((conv=>whnf);first|(with_reducible first|refine br_t ?_|refine br_f ?_|refine za ?_|refine zg ?_)|rw [List.length_map]|refine zp ?_|refine zq ?_|(with_reducible first|refine bc (fun h => ?_) (fun h => ?_)|refine zt ?_|refine zf ?_|refine br_i (fun h => ?_) (fun h => ?_)|refine xi (pv_bool fun _=>nev56 _ _ _ _ _ _ _ _ _ _ _) ?_)|refine zg ?_|refine zi ?_|refine zb ?_)
  refine loop_J (by kernel_rfl) ty_ok (σ:=Nat) (fun i=>[(13,sV (.int .i64 i))]) (fun _=>[]) (fun i=>i≤a.length∧a.take i=b.take i) (fun i=>a.length-i) 0 ⟨by omega,rfl⟩ ?_ ?_
  ·(conv=>whnf);exact zent
  rintro i ⟨hi,hI⟩
  rcases Nat.lt_or_ge i a.length with hlt|hge
  ·have hb:i<b.length:=by omega
   have he1:=mts_get hlt
   have he2:=mts_get hb
   by_cases hc:a[i]=b[i]
   ·have hq:=Mt.eq_iff.1 hc
    repeat' ((conv=>whnf);first|(with_reducible first|refine br_t ?_|refine br_f ?_|refine za ?_|refine zg ?_)|rw [List.length_map]|refine zp ?_|refine zq ?_|(with_reducible first|refine bc (fun h => ?_) (fun h => ?_)|refine zt ?_|refine zf ?_|refine br_i (fun h => ?_) (fun h => ?_)|refine xi (pv_bool fun _=>nev56 _ _ _ _ _ _ _ _ _ _ _) ?_)|refine zg ?_|refine zi ?_|refine zb ?_)
    all_goals conv=>whnf
    refine ⟨i+1,⟨by omega,take_succ_eq hI hlt hb hc⟩,?_,by omega⟩
    (conv=>whnf);exact zent
   ·have hq:=mt Mt.eq_iff.2 hc
    rw [decide_eq_false (ne_of_get hlt hb hc)]
    repeat' ((conv=>whnf);first|(with_reducible first|refine br_t ?_|refine br_f ?_|refine za ?_|refine zg ?_)|rw [List.length_map]|refine zp ?_|refine zq ?_|(with_reducible first|refine bc (fun h => ?_) (fun h => ?_)|refine zt ?_|refine zf ?_|refine br_i (fun h => ?_) (fun h => ?_)|refine xi (pv_bool fun _=>nev56 _ _ _ _ _ _ _ _ _ _ _) ?_)|refine zg ?_|refine zi ?_|refine zb ?_)
    all_goals conv=>whnf
    all_goals rfl
  ·rw [decide_eq_true (take_all_eq hI h0 hge)]
   repeat' ((conv=>whnf);first|(with_reducible first|refine br_t ?_|refine br_f ?_|refine za ?_|refine zg ?_)|rw [List.length_map]|refine zp ?_|refine zq ?_|(with_reducible first|refine bc (fun h => ?_) (fun h => ?_)|refine zt ?_|refine zf ?_|refine br_i (fun h => ?_) (fun h => ?_)|refine xi (pv_bool fun _=>nev56 _ _ _ _ _ _ _ _ _ _ _) ?_)|refine zg ?_|refine zi ?_|refine zb ?_)
   all_goals conv=>whnf
   all_goals rfl
 ·rw [decide_eq_false (fun h=>h0 (congrArg List.length h))]
  repeat' ((conv=>whnf);first|(with_reducible first|refine br_t ?_|refine br_f ?_|refine za ?_|refine zg ?_)|rw [List.length_map]|refine zp ?_|refine zq ?_|(with_reducible first|refine bc (fun h => ?_) (fun h => ?_)|refine zt ?_|refine zf ?_|refine br_i (fun h => ?_) (fun h => ?_)|refine xi (pv_bool fun _=>nev56 _ _ _ _ _ _ _ _ _ _ _) ?_)|refine zg ?_|refine zi ?_|refine zb ?_)
  all_goals conv=>whnf
  all_goals rfl
theorem rmSame_fn (a b:List Mt):FnOK Tryz.prog 68 [.one (mts a),.one (mts b)] (.c (.one (bol (decide (a=b))))):=by
 refine fn_ok (by kernel_rfl) ty_ok Tryz.func68 rfl (fun _ _=>Tryz.call68 _ _) rfl ?_
 intro hw
 simp only [WDCs,WDC,WDs] at hw
 have w1:=wd_mts hw.1
 have w2:=wd_mts hw.2.1
 clear hw
 by_cases h0:a.length=b.length
 ·repeat' ((conv=>whnf);first|(with_reducible first|refine br_t ?_|refine br_f ?_|refine za ?_|refine zg ?_)|rw [List.length_map]|refine zp ?_|refine zq ?_|(with_reducible first|refine bc (fun h => ?_) (fun h => ?_)|refine zt ?_|refine zf ?_|refine br_i (fun h => ?_) (fun h => ?_)|refine xi (pv_bool fun _=>nev56 _ _ _ _ _ _ _ _ _ _ _) ?_)|refine zg ?_|refine zi ?_|refine zb ?_)
  refine loop_J (by kernel_rfl) ty_ok (σ:=Nat) (fun i=>[(5,sV (.int .i64 i))]) (fun _=>[]) (fun i=>i≤a.length∧a.take i=b.take i) (fun i=>a.length-i) 0 ⟨by omega,rfl⟩ ?_ ?_
  ·(conv=>whnf);exact zent
  rintro i ⟨hi,hI⟩
  rcases Nat.lt_or_ge i a.length with hlt|hge
  ·have hb:i<b.length:=by omega
   have he1:=mts_get hlt
   have he2:=mts_get hb
   by_cases hc:a[i]=b[i]
   ·have hq:=Mt.eq_iff.1 hc
    repeat' ((conv=>whnf);first|(with_reducible first|refine br_t ?_|refine br_f ?_|refine za ?_|refine zg ?_)|rw [List.length_map]|refine zp ?_|refine zq ?_|(with_reducible first|refine bc (fun h => ?_) (fun h => ?_)|refine zt ?_|refine zf ?_|refine br_i (fun h => ?_) (fun h => ?_)|refine xi (pv_bool fun _=>nev56 _ _ _ _ _ _ _ _ _ _ _) ?_)|refine zg ?_|refine zi ?_|refine zb ?_)
    all_goals conv=>whnf
    refine ⟨i+1,⟨by omega,take_succ_eq hI hlt hb hc⟩,?_,by omega⟩
    (conv=>whnf);exact zent
   ·have hq:=mt Mt.eq_iff.2 hc
    rw [decide_eq_false (ne_of_get hlt hb hc)]
    repeat' ((conv=>whnf);first|(with_reducible first|refine br_t ?_|refine br_f ?_|refine za ?_|refine zg ?_)|rw [List.length_map]|refine zp ?_|refine zq ?_|(with_reducible first|refine bc (fun h => ?_) (fun h => ?_)|refine zt ?_|refine zf ?_|refine br_i (fun h => ?_) (fun h => ?_)|refine xi (pv_bool fun _=>nev56 _ _ _ _ _ _ _ _ _ _ _) ?_)|refine zg ?_|refine zi ?_|refine zb ?_)
    all_goals conv=>whnf
    all_goals rfl
  ·rw [decide_eq_true (take_all_eq hI h0 hge)]
   repeat' ((conv=>whnf);first|(with_reducible first|refine br_t ?_|refine br_f ?_|refine za ?_|refine zg ?_)|rw [List.length_map]|refine zp ?_|refine zq ?_|(with_reducible first|refine bc (fun h => ?_) (fun h => ?_)|refine zt ?_|refine zf ?_|refine br_i (fun h => ?_) (fun h => ?_)|refine xi (pv_bool fun _=>nev56 _ _ _ _ _ _ _ _ _ _ _) ?_)|refine zg ?_|refine zi ?_|refine zb ?_)
   all_goals conv=>whnf
   all_goals rfl
 ·rw [decide_eq_false (fun h=>h0 (congrArg List.length h))]
  repeat' ((conv=>whnf);first|(with_reducible first|refine br_t ?_|refine br_f ?_|refine za ?_|refine zg ?_)|rw [List.length_map]|refine zp ?_|refine zq ?_|(with_reducible first|refine bc (fun h => ?_) (fun h => ?_)|refine zt ?_|refine zf ?_|refine br_i (fun h => ?_) (fun h => ?_)|refine xi (pv_bool fun _=>nev56 _ _ _ _ _ _ _ _ _ _ _) ?_)|refine zg ?_|refine zi ?_|refine zb ?_)
  all_goals conv=>whnf
  all_goals rfl
end Go.Proofs.YtddbmpbihpkabaaGreat
