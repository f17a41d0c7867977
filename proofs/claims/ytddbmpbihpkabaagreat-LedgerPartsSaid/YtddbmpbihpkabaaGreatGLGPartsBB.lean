import Derived.Test.YtddbmpbihpkabaaGreatGLGPartsBA
import Derived.Test.YtddbmpbihpkabaaGreatRows
import Derived.Test.YtddbmpbihpkabaaGreatGLGPartsAA
import Derived.Test.YtddbmpbihpkabaaGreatGLGPartsAX
set_option linter.all false
namespace Go.Proofs.YtddbmpbihpkabaaGreat
open Go Go.RowKit Go.Sort Sx
set_option maxRecDepth 2000
abbrev X5 (x:Lg):List D:=[i64 x.s.n,i64 x.s.d,pts x.s.l,aks x.al,rps x.rs]
abbrev O5 (x:Lg):Blk:=.own [.d (i64 x.s.n),.d (i64 x.s.d),.d (pts x.s.l),.d (aks x.al),.d (rps x.rs)]
abbrev O3 (m:Md):Blk:=.own [.d (i64 m.n),.d (i64 m.d),.d (pts m.l)]
abbrev pS (n:Nat):SV:=.c (.at (.ptr n 0))
abbrev iS (e:Int):SV:=sV (.int .i64 e)
abbrev lit5 (o:Ow):List Value:=[.int .i64 o.n,.int .i64 o.d,.slice o.xP o.lP o.kP,.slice o.xA o.lA o.kA,.slice o.xR o.lR o.kR]
abbrev litS (o:Ow):SV:=.c (.agg [.d (.v (.int .i64 o.n)),.d (.v (.int .i64 o.d)),.d (.v (.slice o.xP o.lP o.kP)),.d (.v (.slice o.xA o.lA o.kA)),.d (.v (.slice o.xR o.lR o.kR))])
abbrev litB (o:Ow):Blk:=.own [.d (.v (.int .i64 o.n)),.d (.v (.int .i64 o.d)),.d (.v (.slice o.xP o.lP o.kP)),.d (.v (.slice o.xA o.lA o.kA)),.d (.v (.slice o.xR o.lR o.kR))]
abbrev F2 (x y:Lg) (k:Int):Env:=[(2,iS k),(3,.c (.at (.ep 5 [X5 x] 0 0))),(4,.c (.at (.ep 5 [X5 y] 0 0)))]
abbrev F4 (x y:Lg) (k:Int):Env:=(7,pS 7)::F2 x y k
abbrev G4 (o:Ow):Hp:=[(7,litB o)]
structure Ans where
 m:Md
 e:Int
 c:Lg
 d:Lg
 g:Int
 k:Lg
 l:Int
abbrev F5 (x y:Lg) (k:Int) (r:Ans):Env:=(8,pS 8)::(9,iS r.e)::F4 x y k
abbrev G5 (o:Ow) (r:Ans):Hp:=(8,O3 r.m)::G4 o
abbrev F6 (x y:Lg) (k:Int) (r:Ans):Env:=(10,pS 10)::(11,iS r.e)::F5 x y k r
abbrev G6 (o:Ow) (r:Ans):Hp:=(10,O3 r.m)::G5 o r
abbrev F7 (x y:Lg) (k:Int) (r:Ans):Env:=(12,pS 12)::(13,pS 13)::(14,iS r.g)::F6 x y k r
abbrev G7 (o:Ow) (r:Ans):Hp:=(12,O5 r.c)::(13,O5 r.d)::G6 o r
abbrev F8 (x y:Lg) (k:Int) (r:Ans):Env:=(15,pS 15)::(16,pS 16)::(17,iS r.g)::F7 x y k r
abbrev G8 (o:Ow) (r:Ans):Hp:=(15,O5 r.c)::(16,O5 r.d)::G7 o r
abbrev F9 (x y:Lg) (k:Int) (r:Ans):Env:=(18,pS 18)::(19,iS r.l)::F8 x y k r
abbrev G9 (o:Ow) (r:Ans):Hp:=(18,O5 r.k)::G8 o r
abbrev F10 (x y:Lg) (k:Int) (r:Ans):Env:=(20,pS 20)::(21,iS r.l)::F9 x y k r
abbrev G10 (o:Ow) (r:Ans):Hp:=(20,O5 r.k)::G9 o r
theorem x5_get (x:Lg):([X5 x]:List (List D))[0]? = some (X5 x):=rfl
section
variable {P:Program} {M S:Nat→Prop} {w1 w:World} {ρ:Nat→Nm} {E:Env} {H:Hp} {a:Act}
theorem parts_call (R:Rel (fun b=>b=w1.heap.size) (fun b=>M b∨S b) w1 172 ρ E H a w) {o:Oper} {c:Call} {f:Nat} (ho:o.op=.call c) (hc:c.callee=.value (.func f)) {vs:List Value} (hvs:c.args.toList.map a.eval=vs) {args:List DC} {r r':DV} (ha:DCsR w (Mof M ρ H) args vs) (hr:FnOK P f args r) {d:Nat} (hd:o.dst=some d) (hlt:d<172)
  (hfar:∀ w' v,DVR w' (Mof M ρ H) r v→DVR w' (fun b=>Mof M ρ H b∨S b) r' v) {K:Act→World→Prop} {Q:Exit→Act→World→Prop} (hK:∀ a' w',Rel (fun b=>b=w1.heap.size) (fun b=>M b∨S b) w1 172 ρ ((d,embV r')::E) H a' w'→K a' w'):o.wp P a w K Q:=by
 refine wp_call ho hc rfl hvs (lo_sub R.mlo fun b h=>mof_sub (fun b h=>.inl h) h) ha hr fun v w' hv hb => ?_
 rw [hd]
 refine hK _ _ (R.called rfl hb hlt (DVR.emb ((hfar w' v hv).mono (.refl _ w') fun b _ h => ?_)) (names_embV _))
 rcases h with (h|h)|h
 ·exact .inl (.inl h)
 ·exact .inr h
 ·exact .inl (.inr h)
theorem own_at (R:Rel (fun b=>b=w1.heap.size) (fun b=>M b∨S b) w1 172 ρ E H a w) {ds:List D} {us:List Value} (h:DsR w1 M ds us):DsR w (Mof M ρ H) ds us :=
 h.mono (.of_below (R.below.below fun k hk e=>by omega)) fun b hb h=>mof_lo R (fun b e=>Nat.le_of_eq e.symm) hb h
theorem eval_int (R:Rel (fun b=>b=w1.heap.size) (fun b=>M b∨S b) w1 172 ρ E H a w) {t:Nat} {n:Int} (h:Sx.look E t=some (iS n)):a.eval (.tmp t)=.int .i64 n:=by
 have h1:Rep w (Mof (fun b=>M b∨S b) ρ H) (.v (.int .i64 n)) (a.tmps.getD t undef):=R.env t _ h
 exact rep_int' h1
theorem eval_wf (R:Rel (fun b=>b=w1.heap.size) (fun b=>M b∨S b) w1 172 ρ E H a w) {t:Nat} {n:Int} (h:Sx.look E t=some (iS n)):inK .i64 n:=by
 have h1:Rep w (Mof (fun b=>M b∨S b) ρ H) (.v (.int .i64 n)) (a.tmps.getD t undef):=R.env t _ h
 exact (rep_int h1).2
theorem eval_lit (R:Rel (fun b=>b=w1.heap.size) (fun b=>M b∨S b) w1 172 ρ E H a w) {t:Nat} {o:Ow} (h:Sx.look E t=some (litS o)):a.eval (.tmp t)=.agg (lit5 o).toArray :=
 lit_agg (us:=lit5 o) (R.env t _ h)
end
section
variable {M S:Nat→Prop} {w1 w:World} {ρ:Nat→Nm} {a:Act} {x y:Lg} {k:Int} {o:Ow} {Q:Exit→Act→World→Prop}
set_option maxRecDepth 100000 in
theorem parts_r4 {r:Ans} (hr:latV x k=(r.m,r.e)) (hown:DsR w1 M [i64 x.s.n,i64 x.s.d,.list 3 (x.s.l.map (Pt.ev S)),.list 7 (x.al.map (Ak.ev S)),.list 6 (x.rs.map (Rp.ev S))] (lit5 o)) (R:Rel (fun b=>b=w1.heap.size) (fun b=>M b∨S b) w1 172 ρ (F4 x y k) (G4 o) a w)
  (hQ:∀ ρ a w,Rel (fun b=>b=w1.heap.size) (fun b=>M b∨S b) w1 172 ρ (F5 x y k r) (G5 o r) a w→Q .normal a w):(cdA pt3).wp Tryz.prog Q a w:=by
 have hg:∀ b,b=w1.heap.size→w1.heap.size≤b:=fun b e=>Nat.le_of_eq e.symm
 rw [show cdA pt3=.region 4 (cdO (cdA pt3)).toArray false from rfl]
 refine regN (relR (C:=fun b=>b=w1.heap.size) ty_ok (fun _=>rfl) 0 2 _ R (k:=fun E' H'=>EntZ E' H' ((35,litS o)::(36,iS k)::F4 x y k) (G4 o)) ?_ rfl rfl fun E' H' ρ' a' w' hk R' => ?_)
 ·repeat' ((conv=>whnf);first|(with_reducible first|refine br_t ?_|refine br_f ?_|refine za ?_|refine zg ?_)|refine zp ?_|refine zq ?_|(with_reducible first|refine bc (fun h => ?_) (fun h => ?_)|refine zt ?_|refine zf ?_|refine br_i (fun h => ?_) (fun h => ?_))|refine zg ?_|refine zi ?_|refine zb ?_)
  all_goals exact zent
 have R':=R'.entZ hk
 have H:=gAt_hueV S x k
 rw [hr] at H
 refine parts_call R' rfl rfl (vs:=[.agg (lit5 o).toArray,.int .i64 k]) (args:=[x.ev S,.one (i64 k)]) (r':=.tup [r.m.dc,.one (i64 r.e)]) ?_ ⟨⟨_,rfl,own_at R' hown⟩,.v _ rfl (eval_wf R' (t:=36) rfl),trivial⟩ H rfl (by decide) (fun w' v hv => ?_) fun a w R => ?_
 ·show [a'.eval (.tmp 35),a'.eval (.tmp 36)]=_
  rw [eval_lit R' rfl,eval_int R' rfl]
 ·obtain ⟨us,e,h⟩:=hv
  match us,h with
  | [_,_],⟨h1,h2,_⟩=>exact ⟨_,e,far_md h1,flat_to h2,trivial⟩
 refine relE (C:=fun b=>b=w1.heap.size) ty_ok (fun _=>rfl) 3 R (k:=fun E' H'=>EntZ E' H' (F5 x y k r) (G5 o r)) ?_ fun E' H' ρ' a' w' hk R'=>hQ _ _ _ (R'.entZ hk)
 repeat' ((conv=>whnf);first|(with_reducible first|refine br_t ?_|refine br_f ?_|refine za ?_|refine zg ?_)|refine zp ?_|refine zq ?_|(with_reducible first|refine bc (fun h => ?_) (fun h => ?_)|refine zt ?_|refine zf ?_|refine br_i (fun h => ?_) (fun h => ?_))|refine zg ?_|refine zi ?_|refine zb ?_)
 all_goals exact zent
set_option maxRecDepth 100000 in
theorem parts_r5 {r:Ans} (hr:latV x k=(r.m,r.e)) (R:Rel (fun b=>b=w1.heap.size) (fun b=>M b∨S b) w1 172 ρ (F5 x y k r) (G5 o r) a w)
  (hQ:∀ ρ a w,Rel (fun b=>b=w1.heap.size) (fun b=>M b∨S b) w1 172 ρ (F6 x y k r) (G6 o r) a w→Q .normal a w):(cdA pt4).wp Tryz.prog Q a w:=by
 have H:=rgAt_fn x k
 rw [hr] at H
 have el:=x5_get x
 refine code_sound (C:=fun b=>b=w1.heap.size) (by kernel_rfl) ty_ok (fun _=>rfl) _ _ _ (fun ex E' H'=>ex=.normal∧EntZ E' H' (F6 x y k r) (G6 o r)) ?_ _ _ _ _ R fun ex E' H' ρ' a' w' hk R' => ?_
 ·repeat' ((conv=>whnf);first|(with_reducible first|refine br_t ?_|refine br_f ?_|refine za ?_|refine zg ?_)|refine zp ?_|refine zq ?_|(with_reducible first|refine bc (fun h => ?_) (fun h => ?_)|refine zt ?_|refine zf ?_|refine br_i (fun h => ?_) (fun h => ?_))|refine zg ?_|refine zi ?_|refine zb ?_)
  all_goals exact zent
 ·obtain ⟨rfl,hk⟩:=hk
  exact hQ _ _ _ (R'.entZ hk)
set_option maxRecDepth 100000 in
theorem parts_r6 {r:Ans} (hr:cutV x k=(r.c,r.d,r.g)) (hown:DsR w1 M [i64 x.s.n,i64 x.s.d,.list 3 (x.s.l.map (Pt.ev S)),.list 7 (x.al.map (Ak.ev S)),.list 6 (x.rs.map (Rp.ev S))] (lit5 o)) (R:Rel (fun b=>b=w1.heap.size) (fun b=>M b∨S b) w1 172 ρ (F6 x y k r) (G6 o r) a w)
  (hQ:∀ ρ a w,Rel (fun b=>b=w1.heap.size) (fun b=>M b∨S b) w1 172 ρ (F7 x y k r) (G7 o r) a w→Q .normal a w):(cdA pt5).wp Tryz.prog Q a w:=by
 rw [show cdA pt5=.region 6 (cdO (cdA pt5)).toArray false from rfl]
 refine regN (relR (C:=fun b=>b=w1.heap.size) ty_ok (fun _=>rfl) 0 2 _ R (k:=fun E' H'=>EntZ E' H' ((47,litS o)::(48,iS k)::F6 x y k r) (G6 o r)) ?_ rfl rfl fun E' H' ρ' a' w' hk R' => ?_)
 ·repeat' ((conv=>whnf);first|(with_reducible first|refine br_t ?_|refine br_f ?_|refine za ?_|refine zg ?_)|refine zp ?_|refine zq ?_|(with_reducible first|refine bc (fun h => ?_) (fun h => ?_)|refine zt ?_|refine zf ?_|refine br_i (fun h => ?_) (fun h => ?_))|refine zg ?_|refine zi ?_|refine zb ?_)
  all_goals exact zent
 have R':=R'.entZ hk
 have H:=gCut_hueV S x k
 rw [hr] at H
 refine parts_call R' rfl rfl (vs:=[.agg (lit5 o).toArray,.int .i64 k]) (args:=[x.ev S,.one (i64 k)]) (r':=.tup [r.c.dc,r.d.dc,.one (i64 r.g)]) ?_ ⟨⟨_,rfl,own_at R' hown⟩,.v _ rfl (eval_wf R' (t:=48) rfl),trivial⟩ H rfl (by decide) (fun w' v hv => ?_) fun a w R => ?_
 ·show [a'.eval (.tmp 47),a'.eval (.tmp 48)]=_
  rw [eval_lit R' rfl,eval_int R' rfl]
 ·obtain ⟨us,e,h⟩:=hv
  match us,h with
  | [_,_,_],⟨h1,h2,h3,_⟩=>exact ⟨_,e,far_lg h1,far_lg h2,flat_to h3,trivial⟩
 refine relE (C:=fun b=>b=w1.heap.size) ty_ok (fun _=>rfl) 3 R (k:=fun E' H'=>EntZ E' H' (F7 x y k r) (G7 o r)) ?_ fun E' H' ρ' a' w' hk R'=>hQ _ _ _ (R'.entZ hk)
 repeat' ((conv=>whnf);first|(with_reducible first|refine br_t ?_|refine br_f ?_|refine za ?_|refine zg ?_)|refine zp ?_|refine zq ?_|(with_reducible first|refine bc (fun h => ?_) (fun h => ?_)|refine zt ?_|refine zf ?_|refine br_i (fun h => ?_) (fun h => ?_))|refine zg ?_|refine zi ?_|refine zb ?_)
 all_goals exact zent
set_option maxRecDepth 100000 in
theorem parts_r7 {r:Ans} (hr:cutV x k=(r.c,r.d,r.g)) (R:Rel (fun b=>b=w1.heap.size) (fun b=>M b∨S b) w1 172 ρ (F7 x y k r) (G7 o r) a w)
  (hQ:∀ ρ a w,Rel (fun b=>b=w1.heap.size) (fun b=>M b∨S b) w1 172 ρ (F8 x y k r) (G8 o r) a w→Q .normal a w):(cdA pt6).wp Tryz.prog Q a w:=by
 have H:=rgCut_fnV x k
 rw [hr] at H
 simp only [retCut] at H
 have el:=x5_get x
 refine code_sound (C:=fun b=>b=w1.heap.size) (by kernel_rfl) ty_ok (fun _=>rfl) _ _ _ (fun ex E' H'=>ex=.normal∧EntZ E' H' (F8 x y k r) (G8 o r)) ?_ _ _ _ _ R fun ex E' H' ρ' a' w' hk R' => ?_
 ·repeat' ((conv=>whnf);first|(with_reducible first|refine br_t ?_|refine br_f ?_|refine za ?_|refine zg ?_)|refine zp ?_|refine zq ?_|(with_reducible first|refine bc (fun h => ?_) (fun h => ?_)|refine zt ?_|refine zf ?_|refine br_i (fun h => ?_) (fun h => ?_))|refine zg ?_|refine zi ?_|refine zb ?_)
  all_goals exact zent
 ·obtain ⟨rfl,hk⟩:=hk
  exact hQ _ _ _ (R'.entZ hk)
set_option maxRecDepth 100000 in
theorem parts_r8 {r:Ans} (hr:joinV x y=(r.k,r.l)) (hS:Ev S w1) (hown:DsR w1 M [i64 x.s.n,i64 x.s.d,.list 3 (x.s.l.map (Pt.ev S)),.list 7 (x.al.map (Ak.ev S)),.list 6 (x.rs.map (Rp.ev S))] (lit5 o)) (R:Rel (fun b=>b=w1.heap.size) (fun b=>M b∨S b) w1 172 ρ (F8 x y k r) (G8 o r) a w)
  (hQ:∀ ρ a w,Rel (fun b=>b=w1.heap.size) (fun b=>M b∨S b) w1 172 ρ (F9 x y k r) (G9 o r) a w→Q .normal a w):(cdA pt7).wp Tryz.prog Q a w:=by
 have el:=x5_get y
 rw [show cdA pt7=.region 8 (cdO (cdA pt7)).toArray false from rfl]
 refine regN (relR (C:=fun b=>b=w1.heap.size) ty_ok (fun _=>rfl) 0 2 _ R (k:=fun E' H'=>EntZ E' H' ((61,litS o)::(62,.c (.agg ((X5 y).map .d)))::F8 x y k r) (G8 o r)) ?_ rfl rfl fun E' H' ρ' a' w' hk R' => ?_)
 ·repeat' ((conv=>whnf);first|(with_reducible first|refine br_t ?_|refine br_f ?_|refine za ?_|refine zg ?_)|refine zp ?_|refine zq ?_|(with_reducible first|refine bc (fun h => ?_) (fun h => ?_)|refine zt ?_|refine zf ?_|refine br_i (fun h => ?_) (fun h => ?_))|refine zg ?_|refine zi ?_|refine zb ?_)
  all_goals exact zent
 have R':=R'.entZ hk
 have H:=gJoin_hueV S x y
 rw [hr] at H
 have hy:DCR w' (Mof M (fun n=>zv (ρ' n)) (G8 o r)) y.dc (a'.eval (.tmp 62)):=(agg_ds (R'.env 62 _ rfl)).mono (.refl _ w') fun b _ h=>mof_sub (fun b h=>.inl h) h
 have hy:=DCR_wk (C:=Ev S) (fun b hb=>Nat.lt_of_lt_of_le (hS b hb) R'.below.size) (ev_lg y) hy
 refine parts_call R' rfl rfl (vs:=[.agg (lit5 o).toArray,a'.eval (.tmp 62)]) (args:=[x.ev S,y.ev S]) (r':=.tup [r.k.dc,.one (i64 r.l)]) ?_ ⟨⟨_,rfl,own_at R' hown⟩,hy,trivial⟩ H rfl (by decide) (fun w' v hv => ?_) fun a w R => ?_
 ·show [a'.eval (.tmp 61),a'.eval (.tmp 62)]=_
  rw [eval_lit R' rfl]
 ·obtain ⟨us,e,h⟩:=hv
  match us,h with
  | [_,_],⟨h1,h2,_⟩=>exact ⟨_,e,far_lg h1,flat_to h2,trivial⟩
 refine relE (C:=fun b=>b=w1.heap.size) ty_ok (fun _=>rfl) 3 R (k:=fun E' H'=>EntZ E' H' (F9 x y k r) (G9 o r)) ?_ fun E' H' ρ' a' w' hk R'=>hQ _ _ _ (R'.entZ hk)
 repeat' ((conv=>whnf);first|(with_reducible first|refine br_t ?_|refine br_f ?_|refine za ?_|refine zg ?_)|refine zp ?_|refine zq ?_|(with_reducible first|refine bc (fun h => ?_) (fun h => ?_)|refine zt ?_|refine zf ?_|refine br_i (fun h => ?_) (fun h => ?_))|refine zg ?_|refine zi ?_|refine zb ?_)
 all_goals exact zent
set_option maxRecDepth 100000 in
theorem parts_r9 {r:Ans} (hr:joinV x y=(r.k,r.l)) (R:Rel (fun b=>b=w1.heap.size) (fun b=>M b∨S b) w1 172 ρ (F9 x y k r) (G9 o r) a w)
  (hQ:∀ ρ a w,Rel (fun b=>b=w1.heap.size) (fun b=>M b∨S b) w1 172 ρ (F10 x y k r) (G10 o r) a w→Q .normal a w):(cdA pt8).wp Tryz.prog Q a w:=by
 have H:=rgJoin_fnV x y
 rw [hr] at H
 simp only [retG] at H
 have el:=x5_get x
 have el':=x5_get y
 refine code_sound (C:=fun b=>b=w1.heap.size) (by kernel_rfl) ty_ok (fun _=>rfl) _ _ _ (fun ex E' H'=>ex=.normal∧EntZ E' H' (F10 x y k r) (G10 o r)) ?_ _ _ _ _ R fun ex E' H' ρ' a' w' hk R' => ?_
 ·repeat' ((conv=>whnf);first|(with_reducible first|refine br_t ?_|refine br_f ?_|refine za ?_|refine zg ?_)|refine zp ?_|refine zq ?_|(with_reducible first|refine bc (fun h => ?_) (fun h => ?_)|refine zt ?_|refine zf ?_|refine br_i (fun h => ?_) (fun h => ?_))|refine zg ?_|refine zi ?_|refine zb ?_)
  all_goals exact zent
 ·obtain ⟨rfl,hk⟩:=hk
  exact hQ _ _ _ (R'.entZ hk)
abbrev rst (r:Ans):Rst:=⟨[i64 r.m.n,i64 r.m.d,pts r.m.l],[i64 r.m.n,i64 r.m.d,pts r.m.l],X5 r.c,X5 r.d,X5 r.c,X5 r.d,X5 r.k,X5 r.k,r.e,r.e,r.g,r.g,r.l,r.l⟩
theorem parts_f10 {r:Ans} (R:Rel (fun b=>b=w1.heap.size) (fun b=>M b∨S b) w1 172 ρ (F10 x y k r) (G10 o r) a w):RelS 172 (fun b=>M b∨S b) (E3 o (rst r)) a w :=
 frg_rel R (fun b e=>Nat.le_of_eq e.symm) (ks:=ks3) rfl
theorem x3_get (m:Md):([[i64 m.n,i64 m.d,pts m.l]]:List (List D))[0]? = some [i64 m.n,i64 m.d,pts m.l]:=rfl
theorem parts_end {r:Ans} (R:RelS 172 M (E3 o (rst r)) a w)
  (hQ:∀ ex E H ρ a' w',FinP { ty:=Ty,K:=[],mu:=[],co:=[],me:=[],dm:=false } [ResultVar.tmp 6] (fun d=>d=.c (.one (bol true))) ex E H→Rel (fun b=>b=w.heap.size) M w 172 ρ E H a' w'→Q ex a' w'):(cdB pt11).wp Tryz.prog Q a w:=by
 have H1:=roSameModel_fn r.m r.m
 have H2:=rgSame_fn r.c r.c
 have H3:=rgSame_fn r.d r.d
 have H4:=rgSame_fn r.k r.k
 simp only [decide_true] at H1 H2 H3 H4
 have g1:=x3_get r.m
 have g2:=x5_get r.c
 have g3:=x5_get r.d
 have g4:=x5_get r.k
 have q1:(rst r).e9=(rst r).e11:=rfl
 have q2:(rst r).e14=(rst r).e17:=rfl
 have q3:(rst r).e19=(rst r).e21:=rfl
 refine code_sound (C:=fun b=>b=w.heap.size) (by kernel_rfl) ty_ok (fun _=>rfl) _ _ _ (FinP { ty:=Ty,K:=[],mu:=[],co:=[],me:=[],dm:=false } [ResultVar.tmp 6] (fun d=>d=.c (.one (bol true)))) ?_ _ _ _ _ R hQ
 exact zwb
end
section
variable {M:Nat→Prop} {w:World} {a:Act} {x y:Lg} {k:Int} {Q:Exit→Act→World→Prop}
theorem parts_start (g1:lgreat x=false) (g2:lgreat y=false) (R:Rel (fun b=>b=w.heap.size) M w 172 (fun _=>default) (argE 0 [x.dc,y.dc,.one (i64 k)]) [] a w)
  (hQ:∀ a' w',RelS 172 M (F2 x y k) a' w'→Below w.heap.size w w'→pt2.wp Tryz.prog Q a' w'):pt0.wp Tryz.prog Q a w:=by
 have G1:=GLgreat_fn x
 have G2:=GLgreat_fn y
 rw [g1] at G1
 rw [g2] at G2
 rw [show pt0=seqs [cdA pt0,cdA pt1] pt2 from rfl]
 refine codes_sound (C:=fun b=>b=w.heap.size) (by kernel_rfl) ty_ok (fun _=>rfl) _ _ _ (fun ex E' H'=>ex=.normal∧frgE H' E' [2,3,4]=some (F2 x y k)) ?_ _ _ _ _ R fun ex E' H' ρ' a' w' hk R' => ?_
 ·exact zw
 ·obtain ⟨rfl,hk⟩:=hk
  exact hQ a' w' (frg_rel R' (fun b e=>Nat.le_of_eq e.symm) hk) (R'.below.below fun k hk e=>by omega)
theorem lgreat_ok {x:Lg} (h:lgreat x=false):x.s.l.length≤1000000∧x.al.length≤1000000∧x.rs.length≤1000000∧∀ r∈x.rs,r.ms.length≤1000000:=by
 unfold lgreat at h
 simp only [Bool.or_eq_false_iff,decide_eq_false_iff_not] at h
 obtain ⟨b1,b2,b3⟩:=h
 obtain ⟨c1,c2,c3⟩:=gr37_ok b2
 refine ⟨by omega,by omega,by omega,fun r hr => ?_⟩
 rw [List.take_of_length_le (by omega)] at b1
 have:=List.any_eq_false.1 b1 r hr
 have:¬ 300<r.ms.length:=by simpa using this
 omega
theorem parts_twin (g1:lgreat x=false) (R:RelS 172 M (F2 x y k) a w)
  (hQ:∀ (w1:World) (S:Nat→Prop) (o:Ow) (ρ:Nat→Nm) (a':Act) (w':World),Below w.heap.size w w1→(∀ b,S b→w.heap.size≤b∧b<w1.heap.size)→Shp S w1 o.xP o.lP o.xA o.lA o.xR o.lR o.ms→o.lP≤1000000→o.lA≤1000000→o.lR≤1000000 →
   DsR w1 M [i64 x.s.n,i64 x.s.d,.list 3 (x.s.l.map (Pt.ev S)),.list 7 (x.al.map (Ak.ev S)),.list 6 (x.rs.map (Rp.ev S))] (lit5 o)→Rel (fun b=>b=w1.heap.size) (fun b=>M b∨S b) w1 172 ρ (F4 x y k) (G4 o) a' w'→pt3.wp Tryz.prog Q a' w'):pt2.wp Tryz.prog Q a w:=by
 obtain ⟨l1,l2,l3,l4⟩:=lgreat_ok g1
 have el:=x5_get x
 rw [show pt2=.seq (.region 3 (cdO (cdA pt2)).toArray false) pt3 from rfl]
 refine wp_seq (regN (segR ty_ok 0 1 _ [32,2,3,4] ((32,.c (.agg ((X5 x).map .d)))::F2 x y k) R ?_ rfl rfl fun a wb R hb => ?_))
 ·exact zw
 have hlo:=relS_lo R
 refine wp_call rfl rfl rfl (vs:=[a.eval (.tmp 32)]) rfl hlo (args:=[x.ev fun b=>b<wb.heap.size]) ⟨DCR_wk (C:=Ev fun b=>b<wb.heap.size) (fun b h=>h) (ev_lg x) (agg_ds (relS_get R rfl).1),trivial⟩ (rgTwin_hue (fun b=>b<wb.heap.size) x l1 l2 l3 l4) fun v w1 hv hb1 => ?_
 obtain ⟨us,rfl,hv⟩:=hv
 obtain ⟨o,rfl,hsh,e1,e2,e3⟩:=shp_of (S:=fun b=>wb.heap.size≤b∧b<w1.heap.size) hv (fun b h1 h2=>⟨Nat.le_of_not_lt h2,h1⟩) l4
 have hown:DsR w1 M (X5 x) (lit5 o):=DsR_wk (C:=fun _=>True) trivial (show WkL (fun _=>True) [i64 x.s.n,i64 x.s.d,.hue true (fun b=>b<wb.heap.size) (pts x.s.l),.hue true (fun b=>b<wb.heap.size) (aks x.al),.hue true (fun b=>b<wb.heap.size) (rps x.rs)] (X5 x) from ⟨.refl _,.refl _,wk_hue,wk_hue,wk_hue,trivial⟩) hv
 have hown:=DsR_wk (C:=Ev fun b=>wb.heap.size≤b∧b<w1.heap.size) (w:=w1) (fun b h=>h.2) (ev_lg x) hown
 have hLo:Lo w1 (fun b=>M b∨(wb.heap.size≤b∧b<w1.heap.size)):=⟨fun b h=>h.elim (fun h=>Nat.lt_of_lt_of_le (hlo.lt b h) hb1.size) fun h=>h.2,gd_keep hb1.size (fun b h=>hb1.block b (Nat.lt_of_lt_of_le h (gd_size hlo.gd))) hlo.gd,fun b _=>Nat.zero_le b⟩
 have R1:=relS_call R hb1 hLo (fun b h1 h2=>h2.resolve_right fun h=>Nat.not_lt_of_le h.1 h1) (d:=33) (by decide) (x:=litS o) (dvr_lit (us:=lit5 o) hv) (names_lit (lit5 o))
 refine relE (C:=fun b=>b=w1.heap.size) ty_ok (fun _=>rfl) 2 R1 (k:=fun E' H'=>EntZ E' H' (F4 x y k) (G4 o)) ?_ fun E' H' ρ' a' w' hk R' => ?_
 ·repeat' ((conv=>whnf);first|(with_reducible first|refine br_t ?_|refine br_f ?_|refine za ?_|refine zg ?_)|refine zp ?_|refine zq ?_|(with_reducible first|refine bc (fun h => ?_) (fun h => ?_)|refine zt ?_|refine zf ?_|refine br_i (fun h => ?_) (fun h => ?_))|refine zg ?_|refine zi ?_|refine zb ?_)
  all_goals exact zent
 exact hQ w1 _ o _ a' w' (hb.trans (hb1.mono hb.size)) (fun b h=>⟨Nat.le_trans hb.size h.1,h.2⟩) hsh (by omega) (by omega) (by omega) hown (R'.entZ hk)
set_option maxRecDepth 100000 in
theorem LGParts_fn (x y:Lg) (k:Int):FnOK Tryz.prog 3 [x.dc,y.dc,.one (i64 k)] (.c (.one (bol true))):=by
 cases g1:lgreat x with
 | true =>
  have G1:=GLgreat_fn x
  rw [g1] at G1
  refine fn_ok (by kernel_rfl) ty_ok Tryz.func3 rfl (fun _ _=>Tryz.call3 _ _) rfl ?_
  intro hw
  clear hw
  exact zw
 | false =>
  cases g2:lgreat y with
  | true =>
   have G1:=GLgreat_fn x
   have G2:=GLgreat_fn y
   rw [g1] at G1
   rw [g2] at G2
   refine fn_ok (by kernel_rfl) ty_ok Tryz.func3 rfl (fun _ _=>Tryz.call3 _ _) rfl ?_
   intro hw
   clear hw
   exact zw
  | false =>
   intro w M vs hM hvs
   refine .inl ⟨3,Tryz.call3 _ _,calls_of_wp Tryz.func3 (c:=pt0) rfl ?_⟩
   have R:=rel_start (C:=fun b=>b=w.heap.size) (n:=172) (fun n b h=>by obtain ⟨x,h1,h2⟩:=h.gt;omega) hM hvs (Nat.le_of_ble_eq_true rfl) (fun b h=>Nat.zero_le b)
   refine parts_start g1 g2 R fun a wa Ra hba=>parts_twin g1 Ra fun w1 S o ρ a w' hb1 hS hsh hP hA hR hown R => ?_
   have hS':Ev S w1:=fun b h=>(hS b h).2
   obtain ⟨r,r1,r2,r3⟩:∃ r:Ans,latV x k=(r.m,r.e)∧cutV x k=(r.c,r.d,r.g)∧joinV x y=(r.k,r.l):=⟨⟨(latV x k).1,(latV x k).2,(cutV x k).1,(cutV x k).2.1,(cutV x k).2.2,(joinV x y).1,(joinV x y).2⟩,rfl,rfl,rfl⟩
   rw [show pt3=seqs [cdA pt3,cdA pt4,cdA pt5,cdA pt6,cdA pt7,cdA pt8,cdA pt9,cdA pt10,cdA pt11] (cdB pt11) from rfl]
   refine wp_seq (parts_r4 r1 hown R fun ρ a w' R => ?_)
   refine wp_seq (parts_r5 r1 R fun ρ a w' R => ?_)
   refine wp_seq (parts_r6 r2 hown R fun ρ a w' R => ?_)
   refine wp_seq (parts_r7 r2 R fun ρ a w' R => ?_)
   refine wp_seq (parts_r8 r3 hS' hown R fun ρ a w' R => ?_)
   refine wp_seq (parts_r9 r3 R fun ρ a w2 R => ?_)
   have hb2:Below w1.heap.size w1 w2:=R.below.below fun k hk e=>by omega
   have hb1':Below w.heap.size w w1:=hba.trans (hb1.mono hba.size)
   have h:LpI S (fun b=>M b∨S b) w.heap.size w o (E3 o (rst r)) a w2:=⟨parts_f10 R,hsh.below hb2,hb1'.trans (hb2.mono hb1'.size),Nat.le_trans hb1'.size hb2.size⟩
   have hSM:∀ b,S b→(M b∨S b)∧w.heap.size≤b:=fun b h=>⟨.inr h,Nat.le_trans hba.size (hS b h).1⟩
   refine wp_seq (parts_loop1 hSM hA h fun a w2 h => ?_)
   refine wp_seq (parts_loop2 hSM hR h fun a w2 h => ?_)
   refine wp_seq (parts_loop3 hSM hP h fun a w2 h => ?_)
   refine parts_end h.rel fun ex E' H' ρ' a' w3 hk R' => ?_
   have fin:RetP { ty:=Ty,K:=[],mu:=[],co:=[],me:=[],dm:=false } E' H' (Tryz.f3).results.toList (fun d=>d=.c (.one (bol true)))→a'.defers=[]∧∃ v,(results Tryz.f3 a'.tmps).run Tryz.prog w3=.ok v w3∧(∃ u,Ending.returned v=.returned u∧DVR w3 M (.c (.one (bol true))) u∧Below w.heap.size w w3):=fun hr=>by
    obtain ⟨v,d,h1,h2,h3⟩:=ret_ok ty_ok R' hr
    subst h3
    exact ⟨R'.defers,v,h1,v,rfl,flatV_rel rfl h2,h.bel.trans ((R'.below.below fun k hk e=>by omega).mono h.le)⟩
   cases ex<;>first|exact fin hk|exact hk.elim
end
end Go.Proofs.YtddbmpbihpkabaaGreat

namespace Go.Proofs.YtddbmpbihpkabaaGreat
open Go.RowKit Go.ChangeShapes Go.WideShapes Go.ChangeAt Sx
theorem ledgerParts_own:ownKnob Tryz.prog.godebug=none:=by kernel_rfl
set_option maxRecDepth 100000 in
theorem ledgerParts_lifted (os:Os) (started:os.Started) (H:Type) (enc:TypeId × Value→H) :
  ReturnsInHanded {} Tryz.checked os 3 .any (Rows.ledgerPartsSpec.pre6 enc Tryz.prog Tryz.f3 Rows.ledgerPartsRow.domain false) (Rows.ledgerPartsSpec.post enc Tryz.prog Tryz.f3 false true false false):=by
 refine returnsInHanded_of_change (C:=Tryz.checked) ledgerParts_own started (by kernel_rfl) Tryz.func3
  (ChangeSpec.witness6 (enc:=enc) (C:=Tryz.checked) false ⟨#[],#[.agg #[.int .i64 0,.int .i64 0,.slice none 0 0,.slice none 0 0,.slice none 0 0],.agg #[.int .i64 0,.int .i64 0,.slice none 0 0,.slice none 0 0,.slice none 0 0],.int .i64 0],[]⟩ 12 (by kernel_rfl) (by kernel_rfl) (by kernel_rfl) (by kernel_rfl)) ?_
 intro W base args ds gs before hval0 hW hcnd _
 have hval:∀ (j:Nat) t v,Tryz.f3.params[j]? = some t→args[j]? = some v→Value.okWide Tryz.prog W .any base t v:=hval0
 have hW':=hW
 obtain ⟨p,q,hA0,hV,rfl,hfz,hnd⟩:=hW
 have hA:DataW.TrodAll enc Tryz.prog W 0 (fun _=>true) true Tryz.f3.params.toList args.toList ds p:=hA0
 rw [Tryz.params3] at hA hval
 obtain ⟨v0,vs0,d0,ds0,p0,q0,hargs,rfl,rfl,h0,r0⟩:=trodAll_cons hA
 obtain ⟨v1,vs1,d1,ds1,p1,q1,rfl,rfl,rfl,h1,r1⟩:=trodAll_cons r0
 obtain ⟨v2,vs2,d2,ds2,p2,q2,rfl,rfl,rfl,h2,r2⟩:=trodAll_cons r1
 obtain ⟨rfl,rfl,rfl⟩:=trodAll_nil r2
 obtain rfl:args=#[v0,v1,v2]:=by cases args;simp_all
 obtain ⟨e0,hd0,hf0⟩:=arg_data (tyB_ok (s:=shLedger) (by kernel_rfl)) (hval 0 32 v0 rfl rfl) h0
 obtain ⟨x0,rfl⟩:=fit_ledger hf0
 obtain ⟨e1,hd1,hf1⟩:=arg_data (tyB_ok (s:=shLedger) (by kernel_rfl)) (hval 1 32 v1 rfl rfl) h1
 obtain ⟨x1,rfl⟩:=fit_ledger hf1
 obtain ⟨e2,hd2,hf2⟩:=arg_data (tyB_ok (s:=shInt) (by kernel_rfl)) (hval 2 3 v2 rfl rfl) h2
 obtain ⟨x2,rfl⟩:=fit_int hf2
 refine (law_of_fn (vs:=[v0,v1,v2]) (fun _ _=>Tryz.call3 _ _) (LGParts_fn x0 x1 x2) trivial ⟨hd0,hd1,hd2,trivial⟩).mono fun e W' ⟨he,hb⟩ => ?_
 subst he
 exact ⟨_,rfl,law_post (by kernel_rfl) (by kernel_rfl) rfl Tryz.underlying4 rfl hW' ⟨rfl,rfl,rfl⟩ hb⟩
theorem ledgerParts_and {a b:Bool} (h:a=true) (k:b=true):(a && b)=true:=by rw [h,k];rfl
theorem ledgerParts_c0:(Rows.ledgerPartsRow.inPlace == Tryz.prog.inPlace 3)=true:=by kernel_rfl
theorem ledgerParts_c1:(Rows.ledgerPartsRow.unfollowed == Tryz.prog.unfollowed 3)=true:=by kernel_rfl
theorem ledgerParts_c2:(Rows.ledgerPartsRow.recurses == Tryz.prog.recurses 3)=true:=by kernel_rfl
theorem ledgerParts_c3:(Rows.ledgerPartsRow.named == Tryz.prog.varsNamed 3)=true:=by kernel_rfl
theorem ledgerParts_c4:(Rows.ledgerPartsRow.loops == (Tryz.f3.params.toList++Rows.ledgerPartsSpec.plain.varTypes Tryz.prog).any (Tryz.prog.loopsFrom ·))=true:=by kernel_rfl
theorem ledgerParts_c5:laidOutB Tryz.prog=true:=by kernel_rfl
theorem ledgerParts_c6:mapsRowed Tryz.prog=true:=by kernel_rfl
theorem ledgerParts_c7:Tryz.prog.stopsHeard=true:=by kernel_rfl
theorem ledgerParts_c8:Tryz.prog.mayEnter=true:=by kernel_rfl
theorem ledgerParts_facts:joinedFacts Tryz.prog 3 Tryz.f3 Rows.ledgerPartsSpec Rows.ledgerPartsRow=true:=by
 unfold joinedFacts
 repeat' (with_reducible refine ledgerParts_and ?_ ?_)
 all_goals first|with_reducible exact ledgerParts_c0|with_reducible exact ledgerParts_c1|with_reducible exact ledgerParts_c2|with_reducible exact ledgerParts_c3|with_reducible exact ledgerParts_c4|with_reducible exact ledgerParts_c5|with_reducible exact ledgerParts_c6|with_reducible exact ledgerParts_c7|with_reducible exact ledgerParts_c8|kernel_rfl
theorem ledgerParts_over:Rows.ledgerPartsRow.holds Tryz.pinned (OpenSpec.ofChange Rows.ledgerPartsSpec) :=
 OpenClaim.holds_of_wide 3 Tryz.f3 rfl rfl rfl rfl rfl rfl rfl ⟨rfl,rfl,rfl,rfl,rfl⟩ rfl rfl rfl rfl rfl (by kernel_rfl) Tryz.func3 ledgerParts_facts
  (of_decide_eq_true (by kernel_rfl)) (by unfold Func.isWrapper;rw [if_neg (of_decide_eq_false (by kernel_rfl))];exact ⟨rfl,rfl⟩)
  (fun os started H enc _=>ledgerParts_lifted os started H enc)
theorem ledgerParts_proved:Rows.LedgerPartsSaid:=ledgerParts_over
#print axioms ledgerParts_proved
end Go.Proofs.YtddbmpbihpkabaaGreat
