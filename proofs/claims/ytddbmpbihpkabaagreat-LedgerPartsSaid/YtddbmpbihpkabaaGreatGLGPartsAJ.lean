import Derived.Test.YtddbmpbihpkabaaGreatGLGPartsAI
set_option linter.all false
namespace Go.Proofs.YtddbmpbihpkabaaGreat
open Go Go.RowKit
set_option maxRecDepth 2000
namespace Sx
def argE:Nat→List DC→Env
 | _,[]=>[]
 | i,a::l=>(i,.c (embC a))::argE (i+1) l
def retA (H:Hp):At→Option D
 | .d x=>match x with
  | .nil k=>some (.list k [])
  | .emp k=>some (.list k [])
  | .v y=>some (.v y)
  | .list k y=>some (.list k y)
  | .ref y=>some (.ref y)
  | .clo f y=>some (.clo f y)
  | .hue u m y=>some (.hue u m y)
 | .osl n v=>match look H n with
  | some (.row k l v')=>match Nat.beq v v' with|true=>some (.list k l)|false=>none
  | _=>none
 | _=>none
def retAs (H:Hp):List At→Option (List D)
 | []=>some []
 | a::l=>match retA H a,retAs H l with|some x,some r=>some (x::r)|_,_=>none
def dcOf (H:Hp):SC→Option DC
 | .at a=>match retA H a with|some x=>some (.one x)|none=>none
 | .agg l=>match retAs H l with|some r=>some (.agg r)|none=>none
def ownA (H:Hp):At→Option At
 | .d x=>match x with
  | .nil k=>some (.d (.list k []))
  | .emp k=>some (.d (.list k []))
  | .v y=>some (.d (.v y))
  | .list k y=>some (.d (.list k y))
  | .ref y=>some (.d (.ref y))
  | .clo f y=>some (.d (.clo f y))
  | .hue u m y=>some (.d (.hue u m y))
 | .osl n v=>match look H n with
  | some (.row k l v')=>match Nat.beq v v' with|true=>some (.osl n 0)|false=>none
  | _=>none
 | _=>none
def ownAs (H:Hp):List At→Option (List At)
 | []=>some []
 | a::l=>match ownA H a,ownAs H l with|some x,some r=>some (x::r)|_,_=>none
def ownC (H:Hp):SC→Option SC
 | .at a=>match ownA H a with|some x=>some (.at x)|none=>none
 | .agg l=>match ownAs H l with|some r=>some (.agg r)|none=>none
def resR (Γ:Cfg) (E:Env) (H:Hp):ResultVar→Option SC
 | .tmp t=>match look E t with|some (.c x)=>some x|_=>none
 | .cell t ty=>match look E t,look Γ.ty ty with
  | some (.c (.at (.ptr n off))),some td=>match look H n with
   | some (.own cs)=>partA td.agg cs off td.size
   | _=>none
  | _,_=>none
def resC (Γ:Cfg) (E:Env) (H:Hp) (v:ResultVar):Option DC:=match resR Γ E H v with|some x=>dcOf H x|none=>none
def resRs (Γ:Cfg) (E:Env) (H:Hp):List ResultVar→Option (List SC)
 | []=>some []
 | v::l=>match resR Γ E H v,resRs Γ E H l with|some x,some r=>some (x::r)|_,_=>none
def ownCs (H:Hp):List SC→Option (List SC)
 | []=>some []
 | x::l=>match ownC H x,ownCs H l with|some x,some r=>some (x::r)|_,_=>none
def svOf:List SC→SV
 | [x]=>.c x
 | l=>.tup l
def nmA:List At→Nat→Nat→Option (Nat × List At)
 | .d (.nil k)::l,0,n=>some (k,.osl n 0::l)
 | a::l,j+1,n=>match nmA l j n with|some (k,l')=>some (k,a::l')|none=>none
 | _,_,_=>none
def nmC:SC→Nat→Nat→Option (Nat × SC)
 | .at (.d (.nil k)),_,n=>some (k,.at (.osl n 0))
 | .agg l,j,n=>match nmA l j n with|some (k,l')=>some (k,.agg l')|none=>none
 | _,_,_=>none
def nmCs:List SC→Nat→Nat→Nat→Option (Nat × List SC)
 | x::l,0,j,n=>match nmC x j n with|some (k,x')=>some (k,x'::l)|none=>none
 | x::l,i+1,j,n=>match nmCs l i j n with|some (k,l')=>some (k,x::l')|none=>none
 | [],_,_,_=>none
def RetO (Γ:Cfg) (E:Env) (H:Hp) (rs:List ResultVar) (q:OwnR):Prop :=
 match resRs Γ E H rs with
 | some l=>(∃ n v l',ownCs H l=some l'∧svOf l'=embO n q∧look H n=some (.row q.k q.l v)) ∨
  (∃ n l0 l',nmCs l q.i q.j n=some (q.k,l0)∧look H n=none∧ownCs ((n,.row q.k [] 0)::H) l0=some l'∧svOf l'=embO n q∧q.l=[])
 | none=>False
def FinO (Γ:Cfg) (rs:List ResultVar) (q:OwnR) (ex:Exit) (E:Env) (H:Hp):Prop :=
 match ex with
 | .normal=>RetO Γ E H rs q
 | .ret=>RetO Γ E H rs q
 | _=>False
def resL (Γ:Cfg) (E:Env) (H:Hp):List ResultVar→Option (List DC)
 | []=>some []
 | v::l=>match resC Γ E H v,resL Γ E H l with|some x,some r=>some (x::r)|_,_=>none
def RetP (Γ:Cfg) (E:Env) (H:Hp) (rs:List ResultVar) (Q:DV→Prop):Prop :=
 match resL Γ E H rs with
 | some [x]=>Q (.c x)
 | some l=>Q (.tup l)
 | none=>False
def FinP (Γ:Cfg) (rs:List ResultVar) (Q:DV→Prop) (ex:Exit) (E:Env) (H:Hp):Prop :=
 match ex with
 | .normal=>RetP Γ E H rs Q
 | .ret=>RetP Γ E H rs Q
 | _=>False
section
variable {P:Program} {C M0:Nat→Prop} {w0 w:World} {sz:Nat} {ρ:Nat→Nm} {E:Env} {H:Hp} {a:Act} {Γ:Cfg}
theorem retA_rel (R:Rel C M0 w0 sz ρ E H a w) {s:At} {d:D} {v:Value} (h:retA H s=some d) (k:AtR ρ w (Mof M0 ρ H) s v):Rep w M0 d v:=by
 unfold retA at h
 split at h
 ·rename_i y
  have h1:Rep w M0 (normD y) v:=(Rep.norm k).mono (.refl _ w) fun b _ hb=>.inl hb
  split at h<;>(injection h with h;subst h;exact h1)
 ·rename_i n ver
  split at h
  ·rename_i kk l v' hb
   split at h
   ·rename_i hv
    injection h with h;subst h
    have hv:ver=v':=by simpa using hv
    subst hv
    obtain ⟨e1,e2,e3,e4⟩:=k
    have hB:=R.blk n _ hb
    have hreal:0<(ρ n).cap→(Blk.row kk l ver).real (ρ n)=true:=fun h=>by simpa [Blk.real] using h
    refine row_data hB (e4 hB.1.2.2.2.1.symm) (fun b _ h=>.inl h) (fun h hm => ?_) (fun h=>R.hi n _ hb (hreal h))
    have h1:=R.out _ hm
    rcases R.lo n _ hb (hreal h) with h2|h2
    ·omega
    ·rw [e1] at h2;cases h2.2
   ·cases h
  ·cases h
 ·cases h
theorem retAs_rel (R:Rel C M0 w0 sz ρ E H a w):∀ {l:List At} {r:List D} {us:List Value},retAs H l=some r→AtsR ρ w (Mof M0 ρ H) l us→DsR w M0 r us
 | [],r,[],h,k=>by simp [retAs] at h;subst h;trivial
 | s::l,r,u::us,h,k=>by
  simp only [retAs] at h
  split at h
  ·rename_i x r' hx hr
   injection h with h;subst h
   exact ⟨retA_rel R hx k.1,retAs_rel R hr k.2⟩
  ·cases h
 | [],_,_::_,_,k=>k.elim
 | _::_,_,[],_,k=>k.elim
theorem dcOf_rel (R:Rel C M0 w0 sz ρ E H a w) {s:SC} {c:DC} {v:Value} (h:dcOf H s=some c) (k:SCR ρ w (Mof M0 ρ H) s v):DCR w M0 c v:=by
 unfold dcOf at h
 split at h
 ·split at h
  ·rename_i x hx
   injection h with h;subst h
   exact retA_rel R hx k
  ·cases h
 ·split at h
  ·rename_i r hr
   injection h with h;subst h
   obtain ⟨us,rfl,k⟩:=k
   exact ⟨us,rfl,retAs_rel R hr k⟩
  ·cases h
def zv (m:Nm):Nm:={ m with ver:=0 }
theorem ownA_rel (R:Rel C M0 w0 sz ρ E H a w) {s s':At} {v:Value} (h:ownA H s=some s') (k:AtR ρ w (Mof M0 ρ H) s v):AtR (fun n=>zv (ρ n)) w (Mof M0 ρ H) s' v:=by
 unfold ownA at h
 split at h
 ·rename_i y
  have h1:Rep w (Mof M0 ρ H) (normD y) v:=Rep.norm k
  split at h<;>(injection h with h;subst h;exact h1)
 ·rename_i n ver
  split at h
  ·rename_i kk l v' hb
   split at h
   ·rename_i hv
    injection h with h;subst h
    have hv:ver=v':=by simpa using hv
    subst hv
    obtain ⟨e1,e2,e3,e4⟩:=k
    have hB:=R.blk n _ hb
    exact ⟨e1,e2,Nat.le_refl _,fun _=>e4 hB.1.2.2.2.1.symm⟩
   ·cases h
  ·cases h
 ·cases h
theorem ownAs_rel (R:Rel C M0 w0 sz ρ E H a w):∀ {l r:List At} {us:List Value},ownAs H l=some r→AtsR ρ w (Mof M0 ρ H) l us→AtsR (fun n=>zv (ρ n)) w (Mof M0 ρ H) r us
 | [],r,[],h,k=>by simp [ownAs] at h;subst h;trivial
 | s::l,r,u::us,h,k=>by
  simp only [ownAs] at h
  split at h
  ·rename_i x r' hx hr
   injection h with h;subst h
   exact ⟨ownA_rel R hx k.1,ownAs_rel R hr k.2⟩
  ·cases h
 | [],_,_::_,_,k=>k.elim
 | _::_,_,[],_,k=>k.elim
theorem ownC_rel (R:Rel C M0 w0 sz ρ E H a w) {s s':SC} {v:Value} (h:ownC H s=some s') (k:SCR ρ w (Mof M0 ρ H) s v):SCR (fun n=>zv (ρ n)) w (Mof M0 ρ H) s' v:=by
 unfold ownC at h
 split at h
 ·split at h
  ·rename_i x hx
   injection h with h;subst h
   exact ownA_rel R hx k
  ·cases h
 ·split at h
  ·rename_i r hr
   injection h with h;subst h
   obtain ⟨us,rfl,k⟩:=k
   exact ⟨us,rfl,ownAs_rel R hr k⟩
  ·cases h
theorem DCR.mono {w':World} {M M':Nat→Prop} (hw:Holds M w w') (hM:∀ b,b<w.heap.size→M' b→M b):∀ {a:DC} {v:Value},DCR w M a v→DCR w' M' a v
 | .one x,v,h=>Rep.mono h hw hM
 | .agg l,v,⟨vs,e,h⟩=>⟨vs,e,h.mono hw hM⟩
theorem DCsR.mono {w':World} {M M':Nat→Prop} (hw:Holds M w w') (hM:∀ b,b<w.heap.size→M' b→M b):∀ {a:List DC} {v:List Value},DCsR w M a v→DCsR w' M' a v
 | [],[],_=>trivial
 | a::l,v::vs,h=>⟨h.1.mono hw hM,DCsR.mono hw hM h.2⟩
 | [],_::_,h=>h.elim
 | _::_,[],h=>h.elim
theorem DVR.mono {w':World} {M M':Nat→Prop} (hw:Holds M w w') (hM:∀ b,b<w.heap.size→M' b→M b):∀ {a:DV} {v:Value},DVR w M a v→DVR w' M' a v
 | .c x,v,h=>DCR.mono hw hM h
 | .tup l,v,⟨vs,e,h⟩=>⟨vs,e,h.mono hw hM⟩
theorem resR_ok (hΓ:ΓOK P Γ) (R:Rel C M0 w0 sz ρ E H a w) {v:ResultVar} {c:SC} (h:resR Γ E H v=some c) :
  ∃ u,((match v with|.tmp t=>pure (a.tmps.getD t undef)|.cell p t=>do loadVar t (← asAddr (a.tmps.getD p undef))):Sem Value).run P w=.ok u w∧SCR ρ w (Mof M0 ρ H) c u:=by
 unfold resR at h
 split at h
 ·rename_i t
  split at h
  ·rename_i x hx
   injection h with h;subst h
   exact ⟨_,rfl,R.env t _ hx⟩
  ·cases h
 ·rename_i t ty
  split at h
  ·rename_i n off td hx ht
   split at h
   ·rename_i cs hb
    have T:=hΓ _ _ ht
    have hv:a.tmps.getD t undef=.pointer (some ⟨(ρ n).b,off,none⟩):=(R.env t _ hx).2
    obtain ⟨us,hc,hR⟩:=(R.blk n _ hb).2 rfl
    have hR:AtsR ρ w (Mof M0 ρ H) cs us:=hR
    simp only [hv]
    rcases partA_some h with ⟨ha,hl,rfl⟩|⟨ha,u,hu,rfl⟩
    ·refine ⟨.agg ((us.drop off).take td.size).toArray,?_,⟨_,rfl,(hR.drop off).take _⟩⟩
     have hlen:((us.drop off).take td.size).length=td.size:=by have:=hR.length;simp;omega
     have hrun:(loadCells ⟨(ρ n).b,off,none⟩ td.size).run P w=.ok ((us.drop off).take td.size).toArray w:=by
      have:=run_loadCells_list (P:=P) w ⟨(ρ n).b,off,none⟩ ((us.drop off).take td.size) (fun j v hj=>by
       rw [add_plain,cell_of hc]
       rw [List.getElem?_take] at hj
       split at hj
       ·rw [List.getElem?_drop] at hj;exact hj
       ·cases hj)
      rwa [hlen] at this
     simp [asAddr,loadVar,T.2.1,ha,T.1,hrun]
    ·obtain ⟨v,hv1,hv2⟩:=hR.get off u hu
     refine ⟨v,?_,hv2⟩
     simp [asAddr,loadVar,T.2.1,ha,run_load,cell_of hc,hv1]
   ·cases h
  ·cases h
theorem resC_ok (hΓ:ΓOK P Γ) (R:Rel C M0 w0 sz ρ E H a w) {v:ResultVar} {c:DC} (h:resC Γ E H v=some c) :
  ∃ u,((match v with|.tmp t=>pure (a.tmps.getD t undef)|.cell p t=>do loadVar t (← asAddr (a.tmps.getD p undef))):Sem Value).run P w=.ok u w∧DCR w M0 c u:=by
 unfold resC at h
 split at h
 ·rename_i x hx
  obtain ⟨u,h1,h2⟩:=resR_ok hΓ R hx
  exact ⟨u,h1,dcOf_rel R h h2⟩
 ·cases h
theorem resRs_ok (hΓ:ΓOK P Γ) (R:Rel C M0 w0 sz ρ E H a w):∀ {l:List ResultVar} {cs:List SC},resRs Γ E H l=some cs →
  ∃ us:List Value,(l.mapM (fun v=>match v with|.tmp t=>pure (a.tmps.getD t undef)|.cell p t=>do loadVar t (← asAddr (a.tmps.getD p undef)):ResultVar→Sem Value)).run P w=.ok us w∧SCsR ρ w (Mof M0 ρ H) cs us
 | [],cs,h=>by simp [resRs] at h;subst h;exact ⟨[],rfl,trivial⟩
 | v::l,cs,h=>by
  simp only [resRs] at h
  split at h
  ·rename_i x r hx hr
   injection h with h
   subst h
   obtain ⟨u,h1,h2⟩:=resR_ok hΓ R hx
   obtain ⟨us,h3,h4⟩:=resRs_ok hΓ R hr
   refine ⟨u::us,?_,h2,h4⟩
   simp only [List.mapM_cons,Sem.run_bind,h1,Result.andThen_ok,h3,Sem.run_pure]
  ·cases h
theorem ownCs_rel (R:Rel C M0 w0 sz ρ E H a w):∀ {l r:List SC} {us:List Value},ownCs H l=some r→SCsR ρ w (Mof M0 ρ H) l us→SCsR (fun n=>zv (ρ n)) w (Mof M0 ρ H) r us
 | [],r,[],h,k=>by simp [ownCs] at h;subst h;trivial
 | s::l,r,u::us,h,k=>by
  simp only [ownCs] at h
  split at h
  ·rename_i x r' hx hr
   injection h with h;subst h
   exact ⟨ownC_rel R hx k.1,ownCs_rel R hr k.2⟩
  ·cases h
 | [],_,_::_,_,k=>k.elim
 | _::_,_,[],_,k=>k.elim
theorem nmA_rel {ρ:Nat→Nm} {M:Nat→Prop}:∀ {l l':List At} {j n k:Nat} {vs:List Value},nmA l j n=some (k,l')→ρ n=⟨false,0,0,0,0⟩→AtsR ρ w M l vs→AtsR ρ w M l' vs∧∀ m∈namesA l',m∈namesA l∨m=n
 | .d (.nil k0)::l,l',0,n,k,v::vs,h,hn,hR=>by
  simp only [nmA,Option.some.injEq,Prod.mk.injEq] at h
  obtain ⟨rfl,rfl⟩:=h
  refine ⟨⟨?_,hR.2⟩,fun m hm => ?_⟩
  ·have h1:Rep w M (.nil k0) v:=hR.1
   cases h1
   refine ⟨by rw [hn],rfl,by rw [hn];exact Nat.le_refl _,fun _=>⟨none,by rw [hn],fun h=>by rw [hn] at h;exact absurd h (Nat.lt_irrefl _)⟩⟩
  ·simp only [namesA,List.flatMap_cons,At.names,List.nil_append,List.mem_append,List.mem_singleton,List.mem_flatMap] at hm ⊢
   rcases hm with hm|hm
   ·exact .inr hm
   ·exact .inl hm
 | a::l,l',j+1,n,k,v::vs,h,hn,hR=>by
  simp only [nmA] at h
  split at h
  ·rename_i k1 l1 h1
   simp only [Option.some.injEq,Prod.mk.injEq] at h
   obtain ⟨rfl,rfl⟩:=h
   obtain ⟨h2,h3⟩:=nmA_rel h1 hn hR.2
   refine ⟨⟨hR.1,h2⟩,fun m hm => ?_⟩
   simp only [namesA,List.flatMap_cons,List.mem_append] at hm ⊢
   rcases hm with hm|hm
   ·exact .inl (.inl hm)
   ·rcases h3 m hm with h|h
    ·exact .inl (.inr h)
    ·exact .inr h
  ·cases h
 | [],_,_,_,_,_::_,_,_,hR=>hR.elim
 | _::_,_,_,_,_,[],_,_,hR=>hR.elim
 | [],_,0,_,_,[],h,_,_=>by simp [nmA] at h
 | [],_,_+1,_,_,[],h,_,_=>by simp [nmA] at h
 | .d (.v _)::_,_,0,_,_,_::_,h,_,_=>by simp [nmA] at h
 | .d (.emp _)::_,_,0,_,_,_::_,h,_,_=>by simp [nmA] at h
 | .d (.list _ _)::_,_,0,_,_,_::_,h,_,_=>by simp [nmA] at h
 | .d (.ref _)::_,_,0,_,_,_::_,h,_,_=>by simp [nmA] at h
 | .d (.clo _ _)::_,_,0,_,_,_::_,h,_,_=>by simp [nmA] at h
 | .ptr _ _::_,_,0,_,_,_::_,h,_,_=>by simp [nmA] at h
 | .osl _ _::_,_,0,_,_,_::_,h,_,_=>by simp [nmA] at h
 | .rp _ _ _ _ _::_,_,0,_,_,_::_,h,_,_=>by simp [nmA] at h
 | .ep _ _ _ _::_,_,0,_,_,_::_,h,_,_=>by simp [nmA] at h
 | .fn _ _::_,_,0,_,_,_::_,h,_,_=>by simp [nmA] at h
 | .ifp _ _ _::_,_,0,_,_,_::_,h,_,_=>by simp [nmA] at h
 | .asl _ _::_,_,0,_,_,_::_,h,_,_=>by simp [nmA] at h
 | .zsl _::_,_,0,_,_,_::_,h,_,_=>by simp [nmA] at h
theorem nmC_rel {ρ:Nat→Nm} {M:Nat→Prop} {s s':SC} {j n k:Nat} {v:Value} (h:nmC s j n=some (k,s')) (hn:ρ n=⟨false,0,0,0,0⟩) (hR:SCR ρ w M s v):SCR ρ w M s' v:=by
 unfold nmC at h
 split at h
 ·simp only [Option.some.injEq,Prod.mk.injEq] at h
  obtain ⟨rfl,rfl⟩:=h
  have h1:Rep w M (.nil _) v:=hR
  cases h1
  exact ⟨by rw [hn],rfl,by rw [hn];exact Nat.le_refl _,fun _=>⟨none,by rw [hn],fun h=>by rw [hn] at h;exact absurd h (Nat.lt_irrefl _)⟩⟩
 ·split at h
  ·rename_i k1 l1 h1
   simp only [Option.some.injEq,Prod.mk.injEq] at h
   obtain ⟨rfl,rfl⟩:=h
   obtain ⟨vs,e,hR⟩:=hR
   exact ⟨vs,e,(nmA_rel h1 hn hR).1⟩
  ·cases h
 ·cases h
theorem nmCs_rel {ρ:Nat→Nm} {M:Nat→Prop}:∀ {l l':List SC} {i j n k:Nat} {vs:List Value},nmCs l i j n=some (k,l')→ρ n=⟨false,0,0,0,0⟩→SCsR ρ w M l vs→SCsR ρ w M l' vs
 | x::l,l',0,j,n,k,v::vs,h,hn,hR=>by
  simp only [nmCs] at h
  split at h
  ·rename_i k1 x1 h1
   simp only [Option.some.injEq,Prod.mk.injEq] at h
   obtain ⟨rfl,rfl⟩:=h
   exact ⟨nmC_rel h1 hn hR.1,hR.2⟩
  ·cases h
 | x::l,l',i+1,j,n,k,v::vs,h,hn,hR=>by
  simp only [nmCs] at h
  split at h
  ·rename_i k1 l1 h1
   simp only [Option.some.injEq,Prod.mk.injEq] at h
   obtain ⟨rfl,rfl⟩:=h
   exact ⟨hR.1,nmCs_rel h1 hn hR.2⟩
  ·cases h
 | [],_,_,_,_,_,_,h,_,_=>by simp [nmCs] at h
 | _::_,_,_,_,_,_,[],_,_,hR=>hR.elim
theorem Rel.nameRow (R:Rel C M0 w0 sz ρ E H a w) {n k:Nat} (hf:look H n=none) (hlt:n<sz∨n<1000∨∀ b,¬ Pin C w0.heap.size n b):Rel C M0 w0 sz (upd ρ n ⟨false,0,0,0,0⟩) E ((n,.row k [] 0)::H) a w :=
 R.fresh (b:=.row k [] 0) (m:=⟨false,0,0,0,0⟩) hf hlt rfl rfl rfl (Nat.le_refl _) (.inr (Nat.le_refl _)) (fun _ _=>rfl) (fun h=>by simp [Blk.real] at h)
  (fun _ _ _=>⟨⟨by simp,rfl,fun _=>rfl,rfl,rfl⟩,fun h=>by simp [Blk.real] at h⟩) (by simp [Blk.names])
theorem resL_ok (hΓ:ΓOK P Γ) (R:Rel C M0 w0 sz ρ E H a w):∀ {l:List ResultVar} {cs:List DC},resL Γ E H l=some cs →
  ∃ us:List Value,(l.mapM (fun v=>match v with|.tmp t=>pure (a.tmps.getD t undef)|.cell p t=>do loadVar t (← asAddr (a.tmps.getD p undef)):ResultVar→Sem Value)).run P w=.ok us w∧DCsR w M0 cs us
 | [],cs,h=>by simp [resL] at h;subst h;exact ⟨[],rfl,trivial⟩
 | v::l,cs,h=>by
  simp only [resL] at h
  split at h
  ·rename_i x r hx hr
   injection h with h
   subst h
   obtain ⟨u,h1,h2⟩:=resC_ok hΓ R hx
   obtain ⟨us,h3,h4⟩:=resL_ok hΓ R hr
   refine ⟨u::us,?_,h2,h4⟩
   simp only [List.mapM_cons,Sem.run_bind,h1,Result.andThen_ok,h3,Sem.run_pure]
  ·cases h
theorem DCsR.length:∀ {a:List DC} {v:List Value} {M:Nat→Prop},DCsR w M a v→v.length=a.length
 | [],[],_,_=>rfl
 | a::l,v::vs,M,h=>by simp [DCsR.length h.2]
 | [],_::_,_,h=>h.elim
 | _::_,[],_,h=>h.elim
theorem DCsR.get:∀ {a:List DC} {v:List Value} {M:Nat→Prop},DCsR w M a v→∀ (i:Nat) (x:DC),a[i]? = some x→∃ u,v[i]? = some u∧DCR w M x u
 | [],[],_,_,i,x,h=>by simp at h
 | a::l,v::vs,_,h,0,x,hx=>by simp at hx;subst hx;exact ⟨v,rfl,h.1⟩
 | a::l,v::vs,_,h,i+1,x,hx=>by simpa using DCsR.get h.2 i x (by simpa using hx)
 | [],_::_,_,h,_,_,_=>h.elim
 | _::_,[],_,h,_,_,_=>h.elim
theorem ret_ok (hΓ:ΓOK P Γ) (R:Rel C M0 w0 sz ρ E H a w) {fn:Func} {Q:DV→Prop} (h:RetP Γ E H fn.results.toList Q):∃ v r,(results fn a.tmps).run P w=.ok v w∧DVR w M0 r v∧Q r:=by
 unfold RetP at h
 have run:∀ us:List Value,(fn.results.toList.mapM (fun v=>match v with|.tmp t=>pure (a.tmps.getD t undef)|.cell p t=>do loadVar t (← asAddr (a.tmps.getD p undef)):ResultVar→Sem Value)).run P w=.ok us w →
   (results fn a.tmps).run P w=.ok (if h:us.toArray.size=1 then us.toArray[0] else .tuple us.toArray) w:=fun us hus=>by
  unfold results
  simp only [Array.mapM_eq_mapM_toList,Sem.run_bind,Sem.run_map]
  erw [hus]
  rfl
 split at h
 ·rename_i x hx
  obtain ⟨us,h1,h2⟩:=resL_ok hΓ R hx
  match us,h2 with
  | [u],h2=>exact ⟨u,.c x,run _ h1,h2.1,h⟩
 ·rename_i l hne hl
  obtain ⟨us,h1,h2⟩:=resL_ok hΓ R hl
  refine ⟨.tuple us.toArray,.tup l,?_,⟨us,rfl,h2⟩,h⟩
  rw [run _ h1]
  have:us.toArray.size≠1:=fun e=>by
   have hlen:=h2.length
   simp at e
   rw [e] at hlen
   obtain ⟨y,rfl⟩:=List.length_eq_one_iff.1 hlen.symm
   exact hne y rfl
  rw [dif_neg this]
 ·exact h.elim
theorem SCsR.length {ρ:Nat→Nm} {M:Nat→Prop}:∀ {a:List SC} {v:List Value},SCsR ρ w M a v→v.length=a.length
 | [],[],_=>rfl
 | a::l,v::vs,h=>by simp [SCsR.length h.2]
 | [],_::_,h=>h.elim
 | _::_,[],h=>h.elim
theorem reto_ok (hΓ:ΓOK P Γ) (hnp:∀ n b,¬ Pin C w0.heap.size n b) (R:Rel C M0 w0 sz ρ E H a w) {fn:Func} {q:OwnR} (h:RetO Γ E H fn.results.toList q):∃ v n ver ρ' H',(results fn a.tmps).run P w=.ok v w∧Rel C M0 w0 sz ρ' E H' a w∧SVR (fun n=>zv (ρ' n)) w (Mof M0 ρ' H') (embO n q) v∧look H' n=some (.row q.k q.l ver):=by
 unfold RetO at h
 have run:∀ us:List Value,(fn.results.toList.mapM (fun v=>match v with|.tmp t=>pure (a.tmps.getD t undef)|.cell p t=>do loadVar t (← asAddr (a.tmps.getD p undef)):ResultVar→Sem Value)).run P w=.ok us w →
   (results fn a.tmps).run P w=.ok (if h:us.toArray.size=1 then us.toArray[0] else .tuple us.toArray) w:=fun us hus=>by
  unfold results
  simp only [Array.mapM_eq_mapM_toList,Sem.run_bind,Sem.run_map]
  erw [hus]
  rfl
 have fin:∀ {ρ':Nat→Nm} {M:Nat→Prop} {l:List SC} {us:List Value},SCsR ρ' w M l us→∃ v,(if h:us.toArray.size=1 then us.toArray[0] else .tuple us.toArray)=v∧SVR ρ' w M (svOf l) v:=by
  intro ρ' M l us hR
  match l,us,hR with
  | [],[],_=>exact ⟨_,rfl,[],rfl,trivial⟩
  | [x],[u],hR=>exact ⟨u,rfl,hR.1⟩
  | x::y::l,u::v::us,hR =>
   refine ⟨.tuple (u::v::us).toArray,?_,_,rfl,hR⟩
   rw [dif_neg (by simp)]
 split at h
 ·rename_i l hl
  obtain ⟨us,h1,h2⟩:=resRs_ok hΓ R hl
  rcases h with ⟨n,ver,l',ho,e,hb⟩|⟨n,l0,l',hnm,hf,ho,e,hq⟩
  ·obtain ⟨v,hv,hS⟩:=fin (ownCs_rel R ho h2)
   exact ⟨v,n,ver,ρ,H,by rw [run _ h1,hv],R,by rw [← e];exact hS,hb⟩
  ·have R1:=R.nameRow (k:=q.k) hf (.inr (.inr (hnp n)))
   obtain ⟨us',h1',h2'⟩:=resRs_ok (H:=(n,.row q.k [] 0)::H) hΓ R1 (l:=fn.results.toList) (cs:=l) (by
    have:∀ rs cs,resRs Γ E H rs=some cs→resRs Γ E ((n,.row q.k [] 0)::H) rs=some cs:=by
     intro rs
     induction rs with
     | nil=>intro cs h;exact h
     | cons v rs ih =>
      intro cs h
      simp only [resRs] at h ⊢
      split at h
      ·rename_i x r hx hr
       rw [ih r hr]
       have:resR Γ E ((n,.row q.k [] 0)::H) v=some x:=by
        unfold resR at hx ⊢
        split at hx
        ·exact hx
        ·split at hx
         ·rename_i m off td he ht
          split at hx
          ·rename_i cs hb
           rw [look_cons,if_neg (by rintro rfl;rw [hf] at hb;cases hb),hb]
           exact hx
          ·cases hx
         ·cases hx
       rw [this];exact h
      ·cases h
    exact this _ _ hl)
   have hn0:=nmCs_rel hnm (upd_same _ _ _) h2'
   obtain ⟨v,hv,hS⟩:=fin (ownCs_rel R1 ho hn0)
   exact ⟨v,n,0,_,_,by rw [run _ h1',hv],R1,by rw [← e];exact hS,by rw [look_cons,if_pos rfl,hq]⟩
 ·exact h.elim
theorem own_list {f k:Nat} {q:OwnR} (h1:FnOwn P f [.one (.nil k)] q) (h2:FnOwn P f [.one (.emp k)] q):FnOwn P f [.one (.list k [])] q:=by
 intro w M vs hM hvs
 match vs,hvs with
 | [v],⟨hv,_⟩ =>
  have hv:Rep w M (.list k []) v:=hv
  generalize hd:D.list k []=d at hv
  cases hv with
  | nil k' x c hm hx =>
   injection hd with hd _
   subst hd
   cases x with
   | none =>
    have:=hx rfl
    subst this
    exact h1 w M [_] hM ⟨Rep.nl k,trivial⟩
   | some ad=>exact h2 w M [_] hM ⟨Rep.em k ad c hm,trivial⟩
  | @list b off cap k' l vs' hc hm hMb hb hk hv hr =>
   injection hd with hd1 hd2
   subst hd1 hd2
   exact h2 w M [_] hM ⟨Rep.em k ⟨b,off,none⟩ cap hm,trivial⟩
  | _=>cases hd
theorem look_argE:∀ {l:List DC} {i t:Nat} {x:SV},look (argE i l) t=some x→i≤t∧∃ c,l[t-i]? = some c∧x=.c (embC c)
 | [],i,t,x,h=>by simp [argE,look] at h
 | a::l,i,t,x,h=>by
  simp only [argE,look_cons] at h
  split at h
  ·rename_i e
   injection h with h
   subst e h
   exact ⟨Nat.le_refl _,a,by simp,rfl⟩
  ·obtain ⟨h1,c,h2,h3⟩:=look_argE h
   refine ⟨by omega,c,?_,h3⟩
   rw [show t-i=(t-(i+1))+1 by omega]
   simpa using h2
inductive WD:D→Prop where
 | v {x:Value} (h:wfV x):WD (.v x)
 | nl {k:Nat}:WD (.nil k)
 | em {k:Nat}:WD (.emp k)
 | ref {l:List D} (h:∀ d∈l,WD d):WD (.ref l)
 | clo {g:Nat} {caps:List (List D)} (h:∀ c∈caps,∀ d∈c,WD d):WD (.clo g caps)
 | list {k:Nat} {l:List (List D)} (h1:l.length≤9223372036854775807) (h2:∀ e∈l,e.length=k) (h3:∀ e∈l,∀ d∈e,WD d):WD (.list k l)
 | hue {u:Bool} {n:Nat→Prop} {x:D} (h:WD x):WD (.hue u n x)
theorem WD_v {x:Value}:WD (.v x)↔wfV x:=⟨fun h=>(by cases h;assumption),.v⟩
theorem WD_list {k:Nat} {l:List (List D)}:WD (.list k l)↔l.length≤9223372036854775807∧(∀ e∈l,e.length=k)∧∀ e∈l,∀ d∈e,WD d :=
 ⟨fun h=>(by cases h with|list h1 h2 h3=>exact ⟨h1,h2,h3⟩),fun h=>.list h.1 h.2.1 h.2.2⟩
theorem Hue.wd {M:Nat→Prop} {u:Bool} {n:Nat→Prop} {d:D} {v:Value} (h:Hue w M u n d v):WD d:=by
 induction h with
 | v x hn h hw=>exact .v hw
 | nil k x c hm=>exact .list (by simp) (by simp) (by simp)
 | list vs hc hm hM hn hb hf hk hv hr ih =>
  refine .list (by omega) hk fun e he d hd => ?_
  obtain ⟨i,hi,rfl⟩:=List.getElem_of_mem he
  obtain ⟨j,hj,rfl⟩:=List.getElem_of_mem hd
  exact ih i j hi hj
theorem Rep.wd {M:Nat→Prop} {d:D} {v:Value} (h:Rep w M d v):WD d:=by
 induction h with
 | v x h hw=>exact .v hw
 | nil k x c hm=>exact .list (by simp) (by simp) (by simp)
 | nl k=>exact .nl
 | em k x c hm=>exact .em
 | hue u n h=>exact .hue h.wd
 | ref vs hM hb hv hr ih =>
  refine .ref fun d hd => ?_
  obtain ⟨j,hj,rfl⟩:=List.getElem_of_mem hd
  exact ih j hj
 | clo ps hr ih =>
  refine .clo fun c hc d hd => ?_
  obtain ⟨i,hi,rfl⟩:=List.getElem_of_mem hc
  have:=ih i hi
  cases this with
  | ref h=>exact h d hd
 | list vs hc hm hM hb hk hv hr ih =>
  refine .list (by omega) hk fun e he d hd => ?_
  obtain ⟨i,hi,rfl⟩:=List.getElem_of_mem he
  obtain ⟨j,hj,rfl⟩:=List.getElem_of_mem hd
  exact ih i j hi hj
def WDs:List D→Prop
 | []=>True
 | d::l=>WD d∧WDs l
def WDC:DC→Prop
 | .one d=>WD d
 | .agg l=>WDs l
def WDCs:List DC→Prop
 | []=>True
 | a::l=>WDC a∧WDCs l
def WDV:DV→Prop
 | .c x=>WDC x
 | .tup l=>WDCs l
theorem DsR.wd {M:Nat→Prop}:∀ {l:List D} {vs:List Value},DsR w M l vs→WDs l
 | [],[],_=>trivial
 | d::l,v::vs,h=>⟨Rep.wd h.1,DsR.wd h.2⟩
 | [],_::_,h=>h.elim
 | _::_,[],h=>h.elim
theorem DCR.wd {M:Nat→Prop}:∀ {c:DC} {v:Value},DCR w M c v→WDC c
 | .one d,v,h=>Rep.wd h
 | .agg l,v,⟨vs,_,h⟩=>h.wd
theorem DCsR.wd {M:Nat→Prop}:∀ {l:List DC} {vs:List Value},DCsR w M l vs→WDCs l
 | [],[],_=>trivial
 | d::l,v::vs,h=>⟨DCR.wd h.1,DCsR.wd h.2⟩
 | [],_::_,h=>h.elim
 | _::_,[],h=>h.elim
theorem rel_start {C M:Nat→Prop} {vs:List Value} {args:List DC} {n:Nat} (hnp:∀ n b,¬ Pin C w.heap.size n b) (hM:Lo w M) (hvs:DCsR w M args vs) (hn:args.length≤n) (hgc:∀ b,C b→gl≤b) :
  Rel C M w n (fun _=>default) (argE 0 args) [] { tmps:=vs.toArray++Array.replicate (n-vs.toArray.size) undef,defers:=[] } w:=by
 have hlen:=hvs.length
 have hMof:∀ b,Mof M (fun _=>default) [] b→M b:=by
  rintro b (h|⟨n,x,h,_⟩)
  ·exact h
  ·simp [look] at h
 refine ⟨.refl _ _ _,⟨hM.lt,hM.gd,hM.ge,hgc⟩,fun t x hx => ?_,fun n b h=>by simp [look] at h,fun n b h=>by simp [look] at h,fun n b h=>by simp [look] at h,fun n n' b b' h=>by simp [look] at h,rfl,by simp;omega,fun n b h=>absurd h (hnp n b),fun t x hx n hn => ?_,fun n b h=>by simp [look] at h⟩
 ·obtain ⟨_,c,hc,rfl⟩:=look_argE hx
  rw [Nat.sub_zero] at hc
  obtain ⟨u,hu,hd⟩:=hvs.get t c hc
  have ht:t<vs.length:=(List.getElem?_eq_some_iff.1 hu).1
  have hg:(vs.toArray++Array.replicate (n-vs.toArray.size) undef).getD t undef=u:=by
   rw [Array.getD_eq_getD_getElem?,Array.getElem?_append_left (by simpa using ht)]
   simp [hu]
  rw [hg]
  exact DCR.emb (hd.mono (.refl _ _) fun b _ hb=>hMof b hb)
 ·obtain ⟨_,c,hc,rfl⟩:=look_argE hx
  simp only [SV.names,names_embC] at hn
  cases hn
theorem fn_ok (hm:P.follows .mixedOrders=true) (hΓ:ΓOK P Γ) {f:Nat} {fn:Func} {c:Code} (hf:P.funcs[f]? = some fn) (hb:fn.body=some c) (hcall:∀ (vs:Array Value) (w:World),(callFunc f vs).run P w=.ok (.enter f vs) w)
  {args:List DC} (hn:Nat.ble args.length fn.ntmps=true) {r:DV} (h:WDCs args→code P Γ fn.ntmps c (argE 0 args) [] (FinP Γ fn.results.toList (fun d=>d=r))):FnOK P f args r:=by
 refine fun w M vs hM hvs=>.inl ⟨f,hcall _ _,calls_of_wp hf hb ?_⟩
 have R:=rel_start (C:=fun b=>b=w.heap.size) (n:=fn.ntmps) (fun n b h=>by obtain ⟨x,h1,h2⟩:=h.gt;omega) hM hvs (by simpa using hn) (fun b h=>by have:=gd_size hM.gd;omega)
 refine code_sound (C:=fun b=>b=w.heap.size) (w0:=w) hm hΓ (fun _=>rfl) c _ _ _ (h hvs.wd) _ _ w _ R fun ex E' H' ρ' a' w' hk R' => ?_
 have fin:RetP Γ E' H' fn.results.toList (fun d=>d=r)→a'.defers=[]∧∃ v,(results fn a'.tmps).run P w'=.ok v w'∧(∃ u,Ending.returned v=.returned u∧DVR w' M r u∧Below w.heap.size w w'):=fun hr=>by
  obtain ⟨v,d,h1,h2,h3⟩:=ret_ok hΓ R' hr
  subst h3
  exact ⟨R'.defers,v,h1,v,rfl,h2,R'.below.below fun k hk e=>by omega⟩
 cases ex<;>first|exact fin hk|exact hk.elim
theorem fn_okD (hm:P.follows .mixedOrders=true) (hΓ:ΓOK P Γ) (hd:Γ.dm=true) {f:Nat} {fn:Func} {c:Code} (hf:P.funcs[f]? = some fn) (hb:fn.body=some c) (hcall:∀ (vs:Array Value) (w:World),(callFunc f vs).run P w=.ok (.enter f vs) w)
  {args:List DC} (hn:Nat.ble args.length fn.ntmps=true) {r:DV} (h:WDCs args→code P Γ fn.ntmps c (argE 0 args) [] (FinP Γ fn.results.toList (fun d=>d=r))):FnD P f args r:=by
 refine fun w M vs hM hvs=>.inl ⟨f,hcall _ _,calls_of_wp hf hb ?_⟩
 have R:=rel_start (C:=fun _=>False) (n:=fn.ntmps) (fun n b h=>h.2) hM hvs (by simpa using hn) (fun b h=>h.elim)
 refine code_sound (C:=fun _=>False) (w0:=w) hm hΓ (fun h=>by rw [hd] at h;cases h) c _ _ _ (h hvs.wd) _ _ w _ R fun ex E' H' ρ' a' w' hk R' => ?_
 have fin:RetP Γ E' H' fn.results.toList (fun d=>d=r)→a'.defers=[]∧∃ v,(results fn a'.tmps).run P w'=.ok v w'∧(∃ u,Ending.returned v=.returned u∧DVR w' M r u∧Below w.heap.size w w'∧w.drawn≤w'.drawn):=fun hr=>by
  obtain ⟨v,d,h1,h2,h3⟩:=ret_ok hΓ R' hr
  subst h3
  exact ⟨R'.defers,v,h1,v,rfl,h2,R'.below.below fun k hk e=>e,R'.below.drawn.elim False.elim fun h=>h⟩
 cases ex<;>first|exact fin hk|exact hk.elim
theorem fn_own (hm:P.follows .mixedOrders=true) (hΓ:ΓOK P Γ) {f:Nat} {fn:Func} {c:Code} (hf:P.funcs[f]? = some fn) (hb:fn.body=some c) (hcall:∀ (vs:Array Value) (w:World),(callFunc f vs).run P w=.ok (.enter f vs) w)
  {args:List DC} (hn:Nat.ble args.length fn.ntmps=true) {q:OwnR} (h:WDCs args→code P Γ fn.ntmps c (argE 0 args) [] (FinO Γ fn.results.toList q)):FnOwn P f args q:=by
 refine fun w M vs hM hvs=>⟨f,hcall _ _,calls_of_wp hf hb ?_⟩
 have R:=rel_start (C:=fun b=>b=w.heap.size) (n:=fn.ntmps) (fun n b h=>by obtain ⟨x,h1,h2⟩:=h.gt;omega) hM hvs (by simpa using hn) (fun b h=>by have:=gd_size hM.gd;omega)
 refine code_sound (C:=fun b=>b=w.heap.size) (w0:=w) hm hΓ (fun _=>rfl) c _ _ _ (h hvs.wd) _ _ w _ R fun ex E' H' ρ' a' w' hk R' => ?_
 have fin:RetO Γ E' H' fn.results.toList q→a'.defers=[]∧∃ v,(results fn a'.tmps).run P w'=.ok v w'∧(∃ u m,Ending.returned v=.returned u∧Below w.heap.size w w'∧m.own=false∧m.ver=0∧(0<m.cap→w.heap.size≤m.b∧m.b<w'.heap.size) ∧
   SVR (fun _=>m) w' (fun b=>M b∨0<m.cap∧b=m.b) (embO 0 q) u∧BlkR (fun _=>m) w' (fun b=>M b∨0<m.cap∧b=m.b) m (.row q.k q.l 0)):=fun hr=>by
  obtain ⟨v,n,ver,ρ',H',h1,R',h2,h3⟩:=reto_ok hΓ (fun n b h=>by obtain ⟨x,h1,h2⟩:=h.gt;omega) R' hr
  obtain ⟨⟨k1,k2,k3,k4,k5⟩,k6⟩:=R'.blk n _ h3
  have hreal:0<(ρ' n).cap→(Blk.row q.k q.l ver).real (ρ' n)=true:=fun h=>by simpa [Blk.real] using h
  have hsub:∀ b,b<w'.heap.size→(M b∨0<(ρ' n).cap∧b=(ρ' n).b)→Mof M ρ' H' b:=fun b _ h=>by
   rcases h with h|h
   ·exact .inl h
   ·exact .inr ⟨n,_,h3,hreal h.1,h.2.symm⟩
  refine ⟨R'.defers,v,h1,v,zv (ρ' n),rfl,R'.below.below fun k hk e=>by omega,k5,rfl,fun h=>⟨?_,R'.hi n _ h3 (hreal h)⟩,SVR.osl (ρ:=fun j=>zv (ρ' j)) (ρ':=fun _=>zv (ρ' n)) (e0:=n) (d:=0) rfl hsub h2,⟨k1,k2,k3,rfl,k5⟩,fun hr => ?_⟩
  ·rcases R'.lo n _ h3 (hreal h) with h|h
   ·exact h
   ·rw [k5] at h;cases h.2
  ·obtain ⟨cs,hcs,c1,c2,c3,vs,rest,c4,c5⟩:=k6 (hreal (by simpa [Blk.real,zv] using hr))
   exact ⟨cs,hcs,c1,c2,c3,vs,rest,c4,c5.mono (.refl _ w') hsub⟩
 cases ex<;>first|exact fin hk|exact hk.elim
def argM:Nat→Nat→Nat→Env
 | _,_,0=>[]
 | i,n,k+1=>(i,.c (.at (.ptr n 0)))::argM (i+1) (n+1) k
def capH:Nat→List (List D)→Hp
 | _,[]=>[]
 | n,c::cs=>(n,.own (c.map .d))::capH (n+1) cs
def namesM:Nat→Nat→List Nat
 | _,0=>[]
 | n,k+1=>n::namesM (n+1) k
theorem look_argM:∀ {k i n t:Nat} {x:SV},look (argM i n k) t=some x→i≤t∧t<i+k∧x=.c (.at (.ptr (n+(t-i)) 0))
 | 0,i,n,t,x,h=>by simp [argM,look] at h
 | k+1,i,n,t,x,h=>by
  simp only [argM,look_cons] at h
  split at h
  ·rename_i e
   injection h with h
   subst e h
   exact ⟨Nat.le_refl _,by omega,by simp⟩
  ·obtain ⟨h1,h2,h3⟩:=look_argM h
   exact ⟨by omega,by omega,by rw [h3];congr 3;omega⟩
theorem look_capH:∀ {cs:List (List D)} {n m:Nat} {b:Blk},look (capH n cs) m=some b→n≤m∧∃ c,cs[m-n]? = some c∧b=.own (c.map .d)
 | [],n,m,b,h=>by simp [capH,look] at h
 | c::cs,n,m,b,h=>by
  simp only [capH,look_cons] at h
  split at h
  ·rename_i e
   injection h with h
   subst e h
   exact ⟨Nat.le_refl _,c,by simp,rfl⟩
  ·obtain ⟨h1,c',h2,h3⟩:=look_capH h
   refine ⟨by omega,c',?_,h3⟩
   rw [show m-n=(m-(n+1))+1 by omega]
   simpa using h2
theorem capH_look:∀ {cs:List (List D)} {n i:Nat},i<cs.length→∃ c:List D,look (capH n cs) (n+i)=some (.own (c.map .d))
 | [],n,i,h=>by simp at h
 | c::cs,n,0,h=>⟨c,by simp [capH,look_cons]⟩
 | c::cs,n,i+1,h=>by
  obtain ⟨c',h'⟩:=capH_look (cs:=cs) (n:=n+1) (i:=i) (by simpa using h)
  refine ⟨c',?_⟩
  simp only [capH,look_cons]
  rw [if_neg (by omega),show n+(i+1)=n+1+i by omega]
  exact h'
theorem namesM_get:∀ {k n i:Nat},i<k→(namesM n k)[i]? = some (n+i)
 | 0,n,i,h=>by omega
 | k+1,n,0,h=>rfl
 | k+1,n,i+1,h=>by
  simp only [namesM,List.getElem?_cons_succ]
  rw [namesM_get (by omega)];congr 1;omega
theorem look_app {α:Type}:∀ {A B:List (Nat × α)} {t:Nat} {x:α},look (A++B) t=some x→look A t=some x∨look B t=some x
 | [],B,t,x,h=>.inr h
 | (k,y)::A,B,t,x,h=>by
  simp only [List.cons_append,look_cons] at h ⊢
  split at h
  ·rename_i e;rw [if_pos e];exact .inl h
  ·rename_i e;rw [if_neg e];exact look_app h
theorem rel_startM {C M:Nat→Prop} {vs:List Value} {args:List DC} {n:Nat} {cs:List (List D)} {bs:List Nat} (hp:∀ m b,Pin C w.heap.size m b→1000≤m∧n≤1000∧bs.getD (m-1000) 0=b) (hM:Lo w M) (hgc:∀ b,C b→gl≤b) (hvs:DCsR w M args vs) (hn:args.length+cs.length≤n) (hl:bs.length=cs.length) (hnd:bs.Nodup) (hbM:∀ b∈bs,M b) (hC:∀ b∈bs,C b)
  (hcs:∀ (i b:Nat) (ds:List D),bs[i]? = some b→cs[i]? = some ds→∃ us,CellsAt w b us∧DsR w M ds us) :
  Rel C M w n (fun m=>⟨true,bs.getD (m-1000) 0,0,0,0⟩) (argE 0 args++argM args.length 1000 cs.length) (capH 1000 cs) { tmps:=(vs++bs.map fun b=>Value.pointer (some ⟨b,0,none⟩)).toArray++Array.replicate (n-(vs++bs.map fun b=>Value.pointer (some ⟨b,0,none⟩)).toArray.size) undef,defers:=[] } w:=by
 have hlen:=hvs.length
 have hb:∀ m b,look (capH 1000 cs) m=some b→∃ b',bs[m-1000]? = some b'∧bs.getD (m-1000) 0=b':=fun m b h=>by
  obtain ⟨_,c,h1,_⟩:=look_capH h
  have:m-1000<bs.length:=by rw [hl];exact (List.getElem?_eq_some_iff.1 h1).1
  exact ⟨bs[m-1000],List.getElem?_eq_getElem this,by simp [List.getElem?_eq_getElem this]⟩
 have hMof:∀ b,Mof M (fun m=>⟨true,bs.getD (m-1000) 0,0,0,0⟩) (capH 1000 cs) b→M b:=by
  rintro b (h|⟨m,x,h,_,rfl⟩)
  ·exact h
  ·obtain ⟨b',h1,h2⟩:=hb m x h
   show M (bs.getD (m-1000) 0)
   rw [h2];exact hbM _ (List.mem_of_getElem? h1)
 refine ⟨.refl _ _ _,⟨hM.lt,hM.gd,hM.ge,hgc⟩,fun t x hx => ?_,fun m b h _ => ?_,fun m b h _ => ?_,fun m b h => ?_,fun m m' b b' h h' _ _ e => ?_,rfl,?_,fun m b h=>by obtain ⟨h1,h2,h3⟩:=hp m b h;exact ⟨h1,h2,rfl,h3⟩,fun t x hx m hm => ?_,fun m b h k hk => ?_⟩
 ·rcases look_app hx with hx|hx
  ·obtain ⟨_,c,hc,rfl⟩:=look_argE hx
   rw [Nat.sub_zero] at hc
   obtain ⟨u,hu,hd⟩:=hvs.get t c hc
   have ht:t<vs.length:=(List.getElem?_eq_some_iff.1 hu).1
   have hg:((vs++bs.map fun b=>Value.pointer (some ⟨b,0,none⟩)).toArray++Array.replicate (n-(vs++bs.map fun b=>Value.pointer (some ⟨b,0,none⟩)).toArray.size) undef).getD t undef=u:=by
    rw [Array.getD_eq_getD_getElem?,Array.getElem?_append_left (by simp;omega)]
    simp [List.getElem?_append_left ht,hu]
   rw [hg]
   exact DCR.emb (hd.mono (.refl _ _) fun b _ hb=>hMof b hb)
  ·obtain ⟨h1,h2,rfl⟩:=look_argM hx
   have hi:t-args.length<bs.length:=by omega
   have hg:((vs++bs.map fun b=>Value.pointer (some ⟨b,0,none⟩)).toArray++Array.replicate (n-(vs++bs.map fun b=>Value.pointer (some ⟨b,0,none⟩)).toArray.size) undef).getD t undef=.pointer (some ⟨bs[t-args.length],0,none⟩):=by
    rw [Array.getD_eq_getD_getElem?,Array.getElem?_append_left (by simp;omega)]
    simp [List.getElem?_append_right (show vs.length≤t by omega),hlen,List.getElem?_eq_getElem hi]
   rw [hg]
   refine ⟨rfl,?_⟩
   show _=Value.pointer (some ⟨bs.getD (1000+(t-args.length)-1000) 0,0,none⟩)
   rw [show 1000+(t-args.length)-1000=t-args.length by omega]
   simp [List.getElem?_eq_getElem hi]
 ·obtain ⟨b',h1,h2⟩:=hb m b h
  refine .inr ⟨?_,rfl⟩
  show C (bs.getD (m-1000) 0)
  rw [h2];exact hC _ (List.mem_of_getElem? h1)
 ·obtain ⟨b',h1,h2⟩:=hb m b h
  show bs.getD (m-1000) 0<_
  rw [h2];exact hM _ (hbM _ (List.mem_of_getElem? h1))
 ·obtain ⟨b',h1,h2⟩:=hb m b h
  obtain ⟨_,c,h3,rfl⟩:=look_capH h
  refine ⟨trivial,fun _ => ?_⟩
  obtain ⟨us,h4,h5⟩:=hcs _ b' c h1 h3
  refine ⟨us,?_,DsR.ats.1 (h5.mono (.refl _ _) fun b _ hb=>hMof b hb)⟩
  show CellsAt w (bs.getD (m-1000) 0) us
  rw [h2];exact h4
 ·obtain ⟨c1,h1,h2⟩:=hb m b h
  obtain ⟨c2,h3,h4⟩:=hb m' b' h'
  have e:bs.getD (m-1000) 0=bs.getD (m'-1000) 0:=e
  rw [h2,h4] at e
  subst e
  have:=(look_capH h).1
  have:=(look_capH h').1
  have e2:m-1000=m'-1000:=(List.getElem?_inj (List.getElem?_eq_some_iff.1 h1).1 hnd).1 (h1.trans h3.symm)
  omega
 ·simp;omega
 ·rcases look_app hx with hx|hx
  ·obtain ⟨_,c,hc,rfl⟩:=look_argE hx
   simp only [SV.names,names_embC] at hm
   cases hm
  ·obtain ⟨h1,h2,rfl⟩:=look_argM hx
   have:m=1000+(t-args.length):=by simpa [SV.names,SC.names,At.names] using hm
   rw [this]
   obtain ⟨c,h3⟩:=capH_look (cs:=cs) (n:=1000) (i:=t-args.length) (by omega)
   rw [h3];rfl
 ·obtain ⟨_,c,_,rfl⟩:=look_capH h
  simp only [Blk.names] at hk
  rw [names_map_d] at hk;cases hk
def FinM (Γ:Cfg) (rs:List ResultVar) (r:DV) (k:Nat) (cs':List (List D)) (ex:Exit) (E:Env) (H:Hp):Prop:=FinP Γ rs (fun d=>d=r∧capsD (look H) (namesM 1000 k)=some cs') ex E H
theorem fn_mem (hm:P.follows .mixedOrders=true) (hΓ:ΓOK P Γ) {f:Nat} {fn:Func} {c:Code} (hf:P.funcs[f]? = some fn) (hb:fn.body=some c) (hcall:∀ (vs:Array Value) (w:World),(callFunc f vs).run P w=.ok (.enter f vs) w)
  {args:List DC} {cs:List (List D)} (hn:(Nat.ble (args.length+cs.length) fn.ntmps && Nat.ble fn.ntmps 1000)=true) {r:DV} {cs':List (List D)} (hl:cs'.length=cs.length)
  (h:WDCs args→code P Γ fn.ntmps c (argE 0 args++argM args.length 1000 cs.length) (capH 1000 cs) (FinM Γ fn.results.toList r cs.length cs')):FnMem P f args cs r cs':=by
 refine ⟨hl,fun w M vs bs hM hbl hnd hbM hvs hcs=>⟨f,hcall _ _,calls_of_wp hf hb ?_⟩⟩
 rw [Bool.and_eq_true] at hn
 have hbs:∀ b∈bs,b<w.heap.size:=fun b hb=>hM b (hbM b hb)
 have hdec:∀ m b m' b',b<w.heap.size→b'<w.heap.size→w.heap.size+1+m*w.heap.size+b=w.heap.size+1+m'*w.heap.size+b'→m=m'∧b=b':=fun m b m' b' h1 h2 h3=>by
  have h3:m*w.heap.size+b=m'*w.heap.size+b':=by omega
  have e1:(m*w.heap.size+b) / w.heap.size=m:=by rw [Nat.mul_comm,Nat.mul_add_div (by omega),Nat.div_eq_of_lt h1,Nat.add_zero]
  have e2:(m'*w.heap.size+b') / w.heap.size=m':=by rw [Nat.mul_comm,Nat.mul_add_div (by omega),Nat.div_eq_of_lt h2,Nat.add_zero]
  have:m=m':=by rw [← e1,← e2,h3]
  subst this
  exact ⟨rfl,by omega⟩
 have R:=rel_startM (C:=fun x=>x∈bs∨x=w.heap.size∨∃ i b,bs[i]? = some b∧x=w.heap.size+1+(1000+i)*w.heap.size+b) (n:=fn.ntmps) (fun m b h=>by
   have hlt:=h.1
   rcases h.2 with h|h|⟨i,b',h1,h2⟩
   ·have:=hbs _ h;rw [Nat.add_assoc,Nat.add_assoc] at this;omega
   ·rw [Nat.add_assoc,Nat.add_assoc] at h;omega
   ·obtain ⟨e1,e2⟩:=hdec _ _ _ _ hlt (hbs _ (List.mem_of_getElem? h1)) h2
    refine ⟨by omega,by simpa using hn.2,?_⟩
    rw [e1,e2,show 1000+i-1000=i by omega,List.getD_eq_getElem?_getD,h1];rfl) hM (fun x h=>by
   have hg:=gd_size hM.gd
   rcases h with h|h|⟨i,b,h1,h2⟩
   ·exact hM.ge _ (hbM _ h)
   ·omega
   ·rw [Nat.add_assoc,Nat.add_assoc] at h2;omega) hvs (by simpa using hn.1) hbl hnd hbM (fun b hb=>.inl hb) hcs
 refine code_sound (C:=fun x=>x∈bs∨x=w.heap.size∨∃ i b,bs[i]? = some b∧x=w.heap.size+1+(1000+i)*w.heap.size+b) (w0:=w) hm hΓ (fun _=>.inr (.inl rfl)) c _ _ _ (h hvs.wd) _ _ w _ R fun ex E' H' ρ' a' w' hk R' => ?_
 have fin:RetP Γ E' H' fn.results.toList (fun d=>d=r∧capsD (look H') (namesM 1000 cs.length)=some cs')→a'.defers=[]∧∃ v,(results fn a'.tmps).run P w'=.ok v w'∧(∃ u,Ending.returned v=.returned u∧DVR w' M r u∧BelowC (fun b=>b∈bs∨b=w.heap.size) w.heap.size w w' ∧
   ∀ (i b:Nat) (ds:List D),bs[i]? = some b→cs'[i]? = some ds→∃ us,CellsAt w' b us∧DsR w' M ds us):=fun hr=>by
  obtain ⟨v,d,h1,h2,h3,h4⟩:=ret_ok hΓ R' hr
  subst h3
  have hB:=R'.below
  refine ⟨R'.defers,v,h1,v,rfl,h2,⟨hB.os,hB.tape,hB.output,hB.size,fun k hk hC=>hB.block k hk fun h => ?_,.inl (.inr rfl)⟩,fun i b ds hi hds => ?_⟩
  ·rcases h with h|h|⟨i,b',_,h⟩
   ·exact hC (.inl h)
   ·exact hC (.inr h)
   ·rw [Nat.add_assoc,Nat.add_assoc] at h;omega
  ·obtain ⟨_,_,p3,p4⟩:=R'.pin (1000+i) b ⟨hbs _ (List.mem_of_getElem? hi),.inr (.inr ⟨i,b,hi,rfl⟩)⟩
   have hik:i<cs.length:=by rw [← hbl];exact (List.getElem?_eq_some_iff.1 hi).1
   obtain ⟨cells,h5,h6⟩:=capsD_get h4 i (1000+i) ds (namesM_get hik) hds
   obtain ⟨us,h7,h8⟩:=(R'.blk _ _ h5).2 rfl
   rw [p4] at h7
   exact ⟨us,h7,(atsD_rel' h6 h8).mono (.refl _ _) fun b _ hb=>.inl hb⟩
 cases ex<;>first|exact fin hk|exact hk.elim
theorem wp_loopG {c:Code} {Q:Exit→Act→World→Prop} (I:Nat→Act→World→Prop) {n:Nat} (h₀:I n a w)
  (round:∀ n a w,I n a w→c.wp P (Exit.then (fun a' w'=>∃ m,m<n∧I m a' w') Q) a w):(Code.loop c).wp P Q a w:=by
 intro b k cs
 have key:∀ n a w,I n a w→∃ e a' w',Q e a' w'∧Arrives P (lone (b.at a (.code c::.inLoop c::k)) cs w) b k cs e a' w':=by
  intro n
  induction n using Nat.strongRecOn with
  | _ n ih =>
   intro a w hI
   obtain ⟨e,a₁,w₁,hq,harr⟩:=round n a w hI b (.inLoop c::k) cs
   cases e with
   | normal =>
    obtain ⟨m,hlt,hI₁⟩:=hq
    obtain ⟨e₂,a₂,w₂,hq₂,harr₂⟩:=ih m hlt a₁ w₁ hI₁
    exact ⟨e₂,a₂,w₂,hq₂,.of_steps (Steps.trans harr (.one step_inLoop)) harr₂⟩
   | exit id=>exact ⟨_,a₁,w₁,hq,.pass (x:=.inLoop c) rfl (fun _ _=>.inl (by simp)) harr⟩
   | goto l=>exact ⟨_,a₁,w₁,hq,.pass (x:=.inLoop c) rfl (fun _ _=>.inl (by simp)) harr⟩
   | ret=>exact ⟨_,a₁,w₁,hq,.pass (x:=.inLoop c) rfl (fun _ _=>.inl (by simp)) harr⟩
   | panic ch=>exact ⟨_,a₁,w₁,hq,.pass (x:=.inLoop c) rfl (fun _ _=>.inl (by simp)) harr⟩
   | outgrown=>exact ⟨_,a₁,w₁,hq,.pass (x:=.inLoop c) rfl (fun _ _=>.inl (by simp)) harr⟩
 obtain ⟨e,a',w',hq,harr⟩:=key _ a w h₀
 exact ⟨e,a',w',hq,.of_steps (.one step_loop) harr⟩
def entE (E:Env):Env→Prop
 | []=>True
 | (t,x)::r=>look E t=some x∧entE E r
def entH (H:Hp):Hp→Prop
 | []=>True
 | (n,b)::r=>look H n=some b∧entH H r
def keysB (H:Hp) (l:List Nat):Bool:=l.all fun n=>(look H n).isSome
def clB (E:Env) (H:Hp):Bool:=(E.all fun p=>keysB H p.2.names) && (H.all fun p=>keysB H p.2.names)
structure Ent (E:Env) (H:Hp) (E':Env) (H':Hp):Prop where
 env:entE E E'
 hp:entH H H'
 cl:clB E' H'=true
theorem look_mem {α:Type}:∀ {l:List (Nat × α)} {t:Nat} {x:α},look l t=some x→(t,x)∈l
 | [],t,x,h=>by simp [look] at h
 | (k,y)::r,t,x,h=>by
  rw [look_cons] at h
  split at h
  ·rename_i e;injection h with h;subst e h;exact List.mem_cons_self ..
  ·exact List.mem_cons_of_mem _ (look_mem h)
def dvs? : List D→Option (List Value)
 | []=>some []
 | .v x::l=>match x.oneCell',dvs? l with|true,some r=>some (x::r)|_,_=>none
 | _::_=>none
def dc? : DC→Option Value
 | .one (.v x)=>match x.oneCell' with|true=>some x|false=>none
 | .agg l=>match dvs? l with|some r=>some (.agg r.toArray)|none=>none
 | _=>none
def dcs? : List DC→Option (List Value)
 | []=>some []
 | a::l=>match dc? a,dcs? l with|some x,some r=>some (x::r)|_,_=>none
def dv? : DV→Option Value
 | .c x=>dc? x
 | .tup l=>match dcs? l with|some r=>some (.tuple r.toArray)|none=>none
theorem dvs_rel {M:Nat→Prop}:∀ {l:List D} {vs us:List Value},dvs? l=some vs→(DsR w M l us↔us=vs∧WDs l)
 | [],vs,us,h=>by
  simp only [dvs?,Option.some.injEq] at h;subst h
  cases us<;>simp [DsR,WDs]
 | .v x::l,vs,us,h=>by
  simp only [dvs?] at h
  split at h
  ·rename_i r h1 h2
   injection h with h
   subst h
   cases us with
   | nil=>simp [DsR]
   | cons u us =>
    simp only [DsR,dvs_rel h2,List.cons.injEq,WDs]
    constructor
    ·rintro ⟨h3,h4,h5⟩;have:=Rep.wd h3;cases h3;exact ⟨⟨rfl,h4⟩,this,h5⟩
    ·rintro ⟨⟨rfl,h4⟩,h5,h6⟩;exact ⟨.v _ h1 (WD_v.1 h5),h4,h6⟩
  ·cases h
 | .list _ _::l,vs,us,h=>by simp [dvs?] at h
 | .nil _::l,vs,us,h=>by simp [dvs?] at h
 | .emp _::l,vs,us,h=>by simp [dvs?] at h
 | .ref _::l,vs,us,h=>by simp [dvs?] at h
 | .clo _ _::l,vs,us,h=>by simp [dvs?] at h
theorem dc_rel {M:Nat→Prop} {c:DC} {v u:Value} (h:dc? c=some v):DCR w M c u↔u=v∧WDC c:=by
 unfold dc? at h
 split at h
 ·split at h
  ·rename_i h1
   injection h with h
   subst h
   exact ⟨fun h=>(by have:=Rep.wd h;cases (show Rep w M _ _ from h);exact ⟨rfl,this⟩),fun ⟨h,h2⟩=>(by subst h;exact Rep.v _ h1 (WD_v.1 h2))⟩
  ·cases h
 ·split at h
  ·rename_i r hr
   injection h with h
   subst h
   simp only [DCR,dvs_rel hr,WDC]
   exact ⟨fun ⟨vs,e,h⟩=>⟨(by rw [e,h.1]),h.2⟩,fun h=>⟨_,h.1,rfl,h.2⟩⟩
  ·cases h
 ·cases h
theorem dcs_rel {M:Nat→Prop}:∀ {l:List DC} {vs us:List Value},dcs? l=some vs→(DCsR w M l us↔us=vs∧WDCs l)
 | [],vs,us,h=>by
  simp only [dcs?,Option.some.injEq] at h;subst h
  cases us<;>simp [DCsR,WDCs]
 | a::l,vs,us,h=>by
  simp only [dcs?] at h
  split at h
  ·rename_i x r h1 h2
   injection h with h
   subst h
   cases us with
   | nil=>simp [DCsR]
   | cons u us =>
    simp only [DCsR,dc_rel h1,dcs_rel h2,List.cons.injEq,WDCs]
    exact ⟨fun ⟨⟨a,b⟩,c,d⟩=>⟨⟨a,c⟩,b,d⟩,fun ⟨⟨a,c⟩,b,d⟩=>⟨⟨a,b⟩,c,d⟩⟩
  ·cases h
theorem dv_rel {M:Nat→Prop} {c:DV} {v u:Value} (h:dv? c=some v):DVR w M c u↔u=v∧WDV c:=by
 cases c with
 | c x=>exact dc_rel h
 | tup l =>
  simp only [dv?] at h
  split at h
  ·rename_i r hr
   injection h with h
   subst h
   simp only [DVR,dcs_rel hr,WDV]
   exact ⟨fun ⟨vs,e,h⟩=>⟨(by rw [e,h.1]),h.2⟩,fun h=>⟨_,h.1,rfl,h.2⟩⟩
  ·cases h
theorem fn_of_calls {f:Nat} {args:List DC} {vals:List Value} {r:DV} {v:Value} (hcall:∀ (vs:Array Value) (w:World),(callFunc f vs).run P w=.ok (.enter f vs) w) (ha:dcs? args=some vals) (hr:dv? r=some v)
  (hw:WDCs args→WDV r) (h:WDCs args→∀ w,Calls P f vals.toArray w fun e w'=>e=.returned v∧Below w.heap.size w w'):FnOK P f args r:=by
 refine fun w M vs hM hvs=>.inl ⟨f,hcall _ _,?_⟩
 obtain ⟨h1,h2⟩:=(dcs_rel ha).1 hvs
 subst h1
 exact (h h2 w).mono fun e w' ⟨he,hb⟩=>⟨v,he,(dv_rel hr).2 ⟨rfl,hw h2⟩,hb⟩
theorem fnD_of_calls {f:Nat} {args:List DC} {vals:List Value} {r:DV} {v:Value} (hcall:∀ (vs:Array Value) (w:World),(callFunc f vs).run P w=.ok (.enter f vs) w) (ha:dcs? args=some vals) (hr:dv? r=some v)
  (hw:WDCs args→WDV r) (h:WDCs args→∀ w,Calls P f vals.toArray w fun e w'=>e=.returned v∧Below w.heap.size w w'∧w.drawn≤w'.drawn):FnD P f args r:=by
 refine fun w M vs hM hvs=>.inl ⟨f,hcall _ _,?_⟩
 obtain ⟨h1,h2⟩:=(dcs_rel ha).1 hvs
 subst h1
 exact (h h2 w).mono fun e w' ⟨he,hb⟩=>⟨v,he,(dv_rel hr).2 ⟨rfl,hw h2⟩,hb⟩
theorem fnD_of_run {f:Nat} {args:List DC} {vals:List Value} {r:DV} {v:Value} (ha:dcs? args=some vals) (hr:dv? r=some v) (hw:WDCs args→WDV r)
  (h:WDCs args→∀ w,(callFunc f vals.toArray).run P w=.ok (.value v) w):FnD P f args r:=by
 refine fun w M vs hM hvs=>.inr ⟨v,?_⟩
 obtain ⟨h1,h2⟩:=(dcs_rel ha).1 hvs
 subst h1
 exact ⟨h h2 w,(dv_rel hr).2 ⟨rfl,hw h2⟩⟩
theorem calls_of_fn {f:Nat} {args:List DC} {vals:List Value} {r:DV} {v:Value} (hcall:∀ (vs:Array Value) (w:World),(callFunc f vs).run P w=.ok (.enter f vs) w) (ha:dcs? args=some vals) (hr:dv? r=some v) (hwd:WDCs args) (h:FnOK P f args r) (w:World) (hg:Gd w) :
  Calls P f vals.toArray w fun e w'=>e=.returned v∧Below w.heap.size w w':=by
 rcases h w (fun _=>False) vals ⟨fun _ h=>h.elim,hg,fun _ h=>h.elim⟩ ((dcs_rel ha).2 ⟨rfl,hwd⟩) with ⟨g,hg,hc⟩|⟨u,hg,_⟩
 ·have:g=f:=by
   rw [hcall] at hg
   injection hg with h1
   injection h1 with h1
   exact h1.symm
  subst this
  refine hc.mono ?_
  rintro e w' ⟨u,rfl,hu,hb⟩
  rw [dv_rel hr] at hu
  rw [hu.1]
  exact ⟨rfl,hb⟩
 ·rw [hcall] at hg
  injection hg with h1
  cases h1
theorem fn_of_run {f:Nat} {args:List DC} {vals:List Value} {r:DV} {v:Value} (ha:dcs? args=some vals) (hr:dv? r=some v) (hw:WDCs args→WDV r)
  (h:WDCs args→∀ w,(callFunc f vals.toArray).run P w=.ok (.value v) w):FnOK P f args r:=by
 refine fun w M vs hM hvs=>.inr ⟨v,?_⟩
 obtain ⟨h1,h2⟩:=(dcs_rel ha).1 hvs
 subst h1
 exact ⟨h h2 w,(dv_rel hr).2 ⟨rfl,hw h2⟩⟩
end
end Sx
end Go.Proofs.YtddbmpbihpkabaaGreat

namespace Go.Proofs.YtddbmpbihpkabaaGreat
open Go Go.RowKit
namespace Sx
theorem pv_bool {f:World→Result Value} {b:Bool} (h:∀ w,f w=.ok (.bool b) w):(Value.bool b).oneCell'=true∧wfV (.bool b)∧∀ w,f w=.ok (.bool b) w:=⟨rfl,trivial,h⟩
theorem r_int {k:IntKind} {a b:Int} (h:a=b):(DV.c (.one (.v (.int k a))))=.c (.one (.v (.int k b))):=by rw [h]
theorem r_bool {a b:Bool} (h:a=b):(DV.c (.one (.v (.bool a))))=.c (.one (.v (.bool b))):=by rw [h]
def FieldsOK (P:Program):List Field→List (Nat × Nat × Bool)→Prop
 | [],[]=>True
 | f::F,x::fs=>f.offset=x.1∧(∀ w,(sizeOf f.type).run P w=.ok x.2.1 w)∧(∀ w,(isAgg f.type).run P w=.ok x.2.2 w)∧FieldsOK P F fs
 | _,_=>False
theorem fields_get {P:Program}:∀ {F:List Field} {fs:List (Nat × Nat × Bool)},FieldsOK P F fs→F.length=fs.length∧∀ (i:Nat) (x:Nat × Nat × Bool),fs[i]? = some x →
  ∃ f:Field,F[i]? = some f∧f.offset=x.1∧(∀ w,(sizeOf f.type).run P w=.ok x.2.1 w)∧(∀ w,(isAgg f.type).run P w=.ok x.2.2 w)
 | [],[],_=>⟨rfl,fun i x h=>by simp at h⟩
 | f::F,y::fs,⟨h1,h2,h3,h4⟩=>by
  obtain ⟨k1,k2⟩:=fields_get h4
  refine ⟨by simp [k1],fun i x h => ?_⟩
  cases i with
  | zero=>simp at h;subst h;exact ⟨f,rfl,h1,h2,h3⟩
  | succ i=>simpa using k2 i x (by simpa using h)
 | [],_::_,h=>h.elim
 | _::_,[],h=>h.elim
theorem st_ty {P:Program} {t:Nat} {F:Array Field} {fs:List (Nat × Nat × Bool)} (h1:P.underlying t=some (.struct F)) {l:List Field} (h2:F.toList=l) (h3:FieldsOK P l fs) :
  ∃ F:Array Field,P.underlying t=some (.struct F)∧F.size=fs.length∧∀ (i:Nat) (x:Nat × Nat × Bool),fs[i]? = some x→∃ f:Field,F[i]? = some f∧f.offset=x.1∧(∀ w,(sizeOf f.type).run P w=.ok x.2.1 w)∧(∀ w,(isAgg f.type).run P w=.ok x.2.2 w):=by
 subst h2
 obtain ⟨k1,k2⟩:=fields_get h3
 exact ⟨F,h1,by simpa using k1,fun i x h=>by simpa using k2 i x h⟩
theorem sl_ty {P:Program} {t e ek:Nat} {ea:Bool} {zl:List D} {i:TypeInfo} {z z':Value} (h1:P.underlying t=some (.slice e)) (h2:∀ w,(sizeOf e).run P w=.ok ek w) (h3:∀ w,(isAgg e).run P w=.ok ea w) (h4:∀ w,(zeroValue e).run P w=.ok z w) (h5:z.cells.size=ek)
  (h6:P.info? e=some i) (h7:i.size=ek) (h8:i.zero=some z') (h9:z'.cells.size=ek) (h10:∀ w M,DsR w M zl z'.cells.toList) (h11:Nat.ble i.bytes 65536=true) :
  ∃ e,P.underlying t=some (.slice e)∧(∀ w,(sizeOf e).run P w=.ok ek w)∧(∀ w,(isAgg e).run P w=.ok ea w)∧(∃ z,(∀ w,(zeroValue e).run P w=.ok z w)∧z.cells.size=ek) ∧
  ∃ i z,P.info? e=some i∧i.size=ek∧i.zero=some z∧z.cells.size=ek∧(∀ w M,DsR w M zl z.cells.toList)∧i.bytes≤65536 :=
 ⟨e,h1,h2,h3,⟨z,h4,h5⟩,i,z',h6,h7,h8,h9,h10,Nat.le_of_ble_eq_true h11⟩
def TysOK (P:Program):List (Nat × TD)→Prop
 | []=>True
 | (t,td)::r=>TyOK P t td∧TysOK P r
theorem tys_ok {P:Program}:∀ {l:List (Nat × TD)},TysOK P l→∀ t td,look l t=some td→TyOK P t td
 | [],_,t,td,h=>by simp [look] at h
 | (k,y)::r,h0,t,td,h=>by
  rw [look_cons] at h
  split at h
  ·rename_i e;injection h with h;subst e h;exact h0.1
  ·exact tys_ok h0.2 t td h
end Sx
end Go.Proofs.YtddbmpbihpkabaaGreat
