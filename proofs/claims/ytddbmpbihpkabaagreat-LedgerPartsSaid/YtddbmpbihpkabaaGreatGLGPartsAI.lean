import Derived.Test.YtddbmpbihpkabaaGreatGLGPartsAH
import Derived.Scope
set_option linter.all false
namespace Go.Proofs.YtddbmpbihpkabaaGreat
open Go Go.RowKit
namespace Sx
def frcV (v:Value) (k:Value→Prop):Prop :=
 match v with
 | .int c n=>k (.int c n)
 | .bool b=>k (.bool b)
 | .string s=>k (.string s)
 | .agg l=>k (.agg l)
 | .pointer p=>k (.pointer p)
 | v=>k v
theorem frcV_iff (v:Value) (k:Value→Prop):frcV v k↔k v:=by cases v<;>exact Iff.rfl
def frcD (x:D) (k:D→Prop):Prop:=match x with|.v x=>frcV x fun x=>k (.v x)|.list n l=>k (.list n l)|.nil n=>k (.nil n)|.emp n=>k (.emp n)|.ref l=>k (.ref l)|.clo f l=>k (.clo f l)|.hue u m y=>k (.hue u m y)
theorem frcD_iff (x:D) (k:D→Prop):frcD x k↔k x:=by
 cases x with
 | v x=>exact frcV_iff x (fun x=>k (.v x))
 | _=>exact Iff.rfl
def frcA (x:At) (k:At→Prop):Prop :=
 match x with
 | .d x=>frcD x fun x=>k (.d x)
 | .ptr n o=>k (.ptr n o)
 | .osl n l=>k (.osl n l)
 | .rp n l c i o=>k (.rp n l c i o)
 | .ep a b c d=>k (.ep a b c d)
 | .fn f c=>k (.fn f c)
 | .ifp t n o=>k (.ifp t n o)
 | .asl n l=>k (.asl n l)
 | .zsl n=>k (.zsl n)
theorem frcA_iff (x:At) (k:At→Prop):frcA x k↔k x:=by
 cases x with
 | d x=>exact frcD_iff x (fun x=>k (.d x))
 | _=>exact Iff.rfl
def frcAs:List At→(List At→Prop)→Prop
 | [],k=>k []
 | a::l,k=>frcA a fun a=>frcAs l fun l=>k (a::l)
theorem frcAs_iff:∀ (x:List At) (k:List At→Prop),frcAs x k↔k x
 | [],k=>Iff.rfl
 | a::l,k=>by simp only [frcAs];rw [frcA_iff,frcAs_iff l]
def frcC (x:SC) (k:SC→Prop):Prop:=match x with|.at a=>frcA a fun a=>k (.at a)|.agg l=>frcAs l fun l=>k (.agg l)
theorem frcC_iff (x:SC) (k:SC→Prop):frcC x k↔k x:=by
 cases x with
 | «at» a=>exact frcA_iff a (fun a=>k (.at a))
 | agg l=>exact frcAs_iff l (fun l=>k (.agg l))
def frcCs:List SC→(List SC→Prop)→Prop
 | [],k=>k []
 | a::l,k=>frcC a fun a=>frcCs l fun l=>k (a::l)
theorem frcCs_iff:∀ (x:List SC) (k:List SC→Prop),frcCs x k↔k x
 | [],k=>Iff.rfl
 | a::l,k=>by simp only [frcCs];rw [frcC_iff,frcCs_iff l]
def frcS (x:SV) (k:SV→Prop):Prop:=match x with|.c x=>frcC x fun x=>k (.c x)|.tup l=>frcCs l fun l=>k (.tup l)
theorem frcS_iff (x:SV) (k:SV→Prop):frcS x k↔k x:=by
 cases x with
 | c x=>exact frcC_iff x (fun x=>k (.c x))
 | tup l=>exact frcCs_iff l (fun l=>k (.tup l))
def frcB (x:Blk) (k:Blk→Prop):Prop:=match x with|.own l=>frcAs l fun l=>k (.own l)|.row a b c=>k (.row a b c)|.frz=>k .frz
theorem frcB_iff (x:Blk) (k:Blk→Prop):frcB x k↔k x:=by
 cases x with
 | own l=>exact frcAs_iff l (fun l=>k (.own l))
 | row a b c=>exact Iff.rfl
 | frz=>exact Iff.rfl
def frcHs:List (Nat × Blk)→(List (Nat × Blk)→Prop)→Prop
 | [],k=>k []
 | (n,b)::l,k=>frcB b fun b=>frcHs l fun l=>k ((n,b)::l)
theorem frcHs_iff:∀ (x:List (Nat × Blk)) (k:List (Nat × Blk)→Prop),frcHs x k↔k x
 | [],k=>Iff.rfl
 | (n,b)::l,k=>by simp only [frcHs];rw [frcB_iff,frcHs_iff l]
def frcE (x:Eff) (k:Eff→Prop):Prop :=
 match x with
 | .val x=>frcS x fun x=>k (.val x)
 | .new n b x=>frcB b fun b=>frcS x fun x=>k (.new n b x)
 | .put n b=>frcB b fun b=>k (.put n b)
 | .many l x=>frcHs l fun l=>frcS x fun x=>k (.many l x)
theorem frcE_iff (x:Eff) (k:Eff→Prop):frcE x k↔k x:=by
 cases x<;>simp only [frcE,frcS_iff,frcB_iff,frcHs_iff]
def frcN:List Nat→(List Nat→Prop)→Prop
 | [],k=>k []
 | a::l,k=>frcN l fun l=>k (a::l)
theorem frcN_iff:∀ (x:List Nat) (k:List Nat→Prop),frcN x k↔k x
 | [],k=>Iff.rfl
 | a::l,k=>by simp only [frcN];rw [frcN_iff l]
section
variable (P:Program) (Γ:Cfg) (sz:Nat)
def ap2 (dst:Option Nat) (x:Eff) (E:Env) (H:Hp) (k:Env→Hp→Prop):Prop :=
 match x,dst with
 | .val v,some d=>k ((d,v)::E) H
 | .new n b v,some d=>k ((d,v)::E) ((n,b)::H)
 | .put n b,_=>k E ((n,b)::H)
 | .val _,none=>k E H
 | .new n b _,none=>k E ((n,b)::H)
 | .many l v,some d=>k ((d,v)::E) (l++H)
 | .many l _,none=>k E (l++H)
def sngE (x:Eff) (p:Prop):Prop:=match x with|.many _ _=>False|_=>p
theorem sngE_iff (x:Eff) (p:Prop):sngE x p↔x.single=true∧p:=by cases x<;>simp [sngE,Eff.single]
theorem ap2_iff (dst:Option Nat) (x:Eff) (E:Env) (H:Hp) (k:Env→Hp→Prop):ap2 dst x E H k↔k (apE dst x E) (apH x H):=by
 cases x<;>cases dst<;>exact Iff.rfl
def stepXF (o:Oper) (E:Env) (H:Hp) (k:Eff→Prop):Prop :=
 match stepX P Γ sz o (look E) (look H) with
 | some r=>r.run k
 | none=>(stepF P Γ sz o (look E) (look H)).run k
def consS (all:List Oper) (o:Oper) (ih:Env→Hp→(Env→Hp→Prop)→Prop) (E:Env) (H:Hp) (k:Env→Hp→Prop):Prop :=
 (gv all (look E) o).run (stepXF P Γ sz o E H fun x=>frcE x fun x=>ap2 o.dst x E H fun E H=>ih E H k)
   (match dstB sz o.dst with|true=>ap2 o.dst skipE E H fun E H=>ih E H k|false=>False)
noncomputable def regS (all:List Oper) (l:List Oper):Env→Hp→(Env→Hp→Prop)→Prop :=
 List.rec (motive:=fun _=>Env→Hp→(Env→Hp→Prop)→Prop) (fun E H k=>k E H) (fun o _ ih=>consS P Γ sz all o ih) l
theorem regS_cons (all:List Oper) (o:Oper) (r:List Oper) (E:Env) (H:Hp) (k:Env→Hp→Prop):regS P Γ sz all (o::r) E H k=((gv all (look E) o).run (stepXF P Γ sz o E H fun x=>frcE x fun x=>ap2 o.dst x E H fun E H=>regS P Γ sz all r E H k)
   (match dstB sz o.dst with|true=>ap2 o.dst skipE E H fun E H=>regS P Γ sz all r E H k|false=>False)):=rfl
abbrev Recs:=List (List Nat × List Nat)
def consD (all:List Oper) (o:Oper) (ih:Env→Hp→Recs→(Env→Hp→Recs→Prop)→Prop) (E:Env) (H:Hp) (recs:Recs) (k:Env→Hp→Recs→Prop):Prop :=
 (gv all (look E) o).run ((stepF P Γ sz o (look E) (look H)).run fun x=>frcE x fun x=>sngE x (frcN (namR o (valsOf (look E) o)) fun ns=>frcN (affOf x) fun af=>ap2 o.dst x E H fun E H=>ih E H ((ns,af)::recs) k))
   (match dstB sz o.dst with|true=>ap2 o.dst skipE E H fun E H=>ih E H (([],[])::recs) k|false=>False)
noncomputable def regD (all:List Oper) (l:List Oper):Env→Hp→Recs→(Env→Hp→Recs→Prop)→Prop :=
 List.rec (motive:=fun _=>Env→Hp→Recs→(Env→Hp→Recs→Prop)→Prop) (fun E H recs k=>k E H recs) (fun o _ ih=>consD P Γ sz all o ih) l
theorem regD_cons (all:List Oper) (o:Oper) (r:List Oper) (E:Env) (H:Hp) (recs:Recs) (k:Env→Hp→Recs→Prop):regD P Γ sz all (o::r) E H recs k =
  ((gv all (look E) o).run ((stepF P Γ sz o (look E) (look H)).run fun x=>frcE x fun x=>sngE x (frcN (namR o (valsOf (look E) o)) fun ns=>frcN (affOf x) fun af=>ap2 o.dst x E H fun E H=>regD P Γ sz all r E H ((ns,af)::recs) k))
   (match dstB sz o.dst with|true=>ap2 o.dst skipE E H fun E H=>regD P Γ sz all r E H (([],[])::recs) k|false=>False)):=rfl
structure LoopP (dm:Bool) (body:Code) (E:Env) (H:Hp) (k:Exit→Env→Hp→Prop):Prop where
 run:∀ (C M0:Nat→Prop) (w0:World) (ρ:Nat→Nm) (a:Act) (w:World) (Q:Exit→Act→World→Prop),(dm=false→C w0.heap.size)→Rel C M0 w0 sz ρ E H a w →
  (∀ ex E' H' ρ' a' w',k ex E' H'→Rel C M0 w0 sz ρ' E' H' a' w'→Q ex a' w')→(Code.loop body).wp P Q a w
structure NodeP (dm:Bool) (node:Code) (E:Env) (H:Hp) (k:Exit→Env→Hp→Prop):Prop where
 run:∀ (C M0:Nat→Prop) (w0:World) (ρ:Nat→Nm) (a:Act) (w:World) (Q:Exit→Act→World→Prop),(dm=false→C w0.heap.size)→Rel C M0 w0 sz ρ E H a w →
  (∀ ex E' H' ρ' a' w',k ex E' H'→Rel C M0 w0 sz ρ' E' H' a' w'→Q ex a' w')→node.wp P Q a w
abbrev KP:=Exit→Env→Hp→Prop
def cRegion (ops:Array Oper) (draw:Bool) (E:Env) (H:Hp) (k:KP):Prop :=
 match draw with
 | false=>regS P Γ sz ops.toList ops.toList E H fun E H=>k .normal E H
 | true=>regD P Γ sz ops.toList ops.toList E H [] fun E H recs=>chk ops.toList recs.reverse=true∧k .normal E H
def cSeq (iha ihb:Env→Hp→KP→Prop) (E:Env) (H:Hp) (k:KP):Prop :=
 iha E H fun ex E H=>match ex with
  | .normal=>ihb E H k
  | ex=>k ex E H
def cCond (c:Operand) (iht ihe:Env→Hp→KP→Prop) (E:Env) (H:Hp) (k:KP):Prop :=
 match ev (look E) c with
 | some (.c (.at (.d (.v (.bool b)))))=>br b (iht E H k) (ihe E H k)
 | _=>False
def cBlock (id:Nat) (ih:Env→Hp→KP→Prop) (E:Env) (H:Hp) (k:KP):Prop :=
 ih E H fun ex E H=>match ex with
  | .exit id'=>match Nat.beq id' id with|true=>k .normal E H|false=>k (.exit id') E H
  | ex=>k ex E H
noncomputable def code (c:Code):Env→Hp→KP→Prop :=
 Code.rec (motive:=fun _=>Env→Hp→KP→Prop)
  (fun E H k=>k .normal E H) (fun _ ops draw=>cRegion P Γ sz ops draw) (fun _ _ iha ihb=>cSeq iha ihb) (fun c _ _ iht ihe=>cCond c iht ihe) (fun id _ ih=>cBlock id ih)
  (fun body _ E H k=>LoopP P sz Γ.dm body E H k) (fun f ps a c _ _ E H k=>NodeP P sz Γ.dm (.rangeFunc f ps a c) E H k) (fun id E H k=>k (.exit id) E H) (fun c _ E H k=>NodeP P sz Γ.dm (.scope c) E H k) (fun _ E H k=>k .normal E H) (fun l E H k=>k (.goto l) E H)
  (fun E H k=>k .ret E H) (fun _ _ _ _=>False) c
end
section
variable {P:Program} {C M0:Nat→Prop} {w0:World} {sz:Nat} {Γ:Cfg}
theorem regS_sound (hΓ:ΓOK P Γ) (hdm:Γ.dm=false→C w0.heap.size) {all:List Oper} {k:Env→Hp→Prop} {Q:Exit→Act→World→Prop} (hQ:∀ E H ρ a w,k E H→Rel C M0 w0 sz ρ E H a w→Q .normal a w) :
  ∀ (l:List Oper) (i:Nat) (E:Env) (H:Hp) (ρ:Nat→Nm) (a:Act) (w:World),(∀ j,l[j]? = all[i+j]?)→Rel C M0 w0 sz ρ E H a w→regS P Γ sz all l E H k→wpOps P all.toArray Q (List.range' i l.length) a w
 | [],i,E,H,ρ,a,w,hl,R,h=>hQ E H ρ a w h R
 | o::r,i,E,H,ρ,a,w,hl,R,h=>by
  have h0:all[i]? = some o:=by simpa using (hl 0).symm
  rw [List.length_cons,List.range'_succ,wpOps_cons]
  rw [regS_cons] at h
  have rec':∀ x,regS P Γ sz all r (apE o.dst x E) (apH x H) k→∀ ρ' a' w',Rel C M0 w0 sz ρ' (apE o.dst x E) (apH x H) a' w'→wpOps P all.toArray Q (List.range' (i+1) r.length) a' w':=fun x hx ρ' a' w' R' =>
   regS_sound hΓ hdm hQ r (i+1) _ _ ρ' a' w' (fun j=>by have:=hl (j+1);simpa [Nat.add_assoc,Nat.add_comm 1 j] using this) R' hx
  rcases GV.run_val h with ⟨hg,h⟩|⟨hg,h⟩
  ·unfold stepXF at h
   split at h
   ·rename_i r' hr'
    unfold wpOp
    have hi':all.toArray[i]? = some o:=by simpa using h0
    simp only [hi']
    rw [gv_wanted R hg,if_pos rfl]
    exact .inl (stepX_sound hΓ hdm R hr' h (fun x hk ρ' v w' R'=>by
     rw [frcE_iff,ap2_iff] at hk
     exact rec' x hk ρ' _ w' R'))
   ·obtain ⟨x,hx,hk⟩:=SR.run_has h
    rw [frcE_iff,ap2_iff] at hk
    exact opAt_sound hΓ hdm R (.inl ⟨hg,hx⟩) h0 (rec' x hk)
  ·split at h
   ·rename_i hd
    rw [ap2_iff] at h
    exact opAt_sound hΓ hdm R (.inr ⟨hg,hd,rfl⟩) h0 (rec' skipE h)
   ·exact h.elim
theorem runU_shift {α:Type}:∀ (us:List (Option (Nat × α))) (i:Nat) (X:Nat→Bool) (E:List (Nat × α)),runU us (i+1) X E=runU us i (fun j=>X (j+1)) E
 | [],_,_,_=>rfl
 | u::us,i,X,E=>by simp only [runU];exact runU_shift us (i+1) X _
theorem runU_none {α:Type}:∀ (us:List (Option (Nat × α))) (i:Nat) (E:List (Nat × α)),runU us i (fun _=>false) E=E
 | [],_,_=>rfl
 | u::us,i,E=>by simp only [runU];exact runU_none us (i+1) E
theorem lt_zero_fun:(fun j:Nat=>decide (j<0))=fun _=>false:=by funext j;simp
theorem lt_succ_fun (i:Nat):(fun j:Nat=>(fun j=>decide (j<i+1)) (j+1))=fun j=>decide (j<i):=by funext j;simp
def RecOK (P:Program) (Γ:Cfg) (sz:Nat) (all:List Oper) (e:Nat→Option SV) (h:Nat→Option Blk) (o:Oper) (x:Eff) (r:List Nat × List Nat):Prop :=
 r.2=affOf x∧x.single=true∧OpAt P Γ sz all e h o x∧namR o (valsOf e o)=r.1∨(r=([],[])∧x=skipE∧(gv all e o).val=some false∧dstB sz o.dst=true)
theorem regD_trace {all:List Oper} {k:Env→Hp→List (List Nat × List Nat)→Prop}:∀ (l:List Oper) (E:Env) (H:Hp) (recs0:List (List Nat × List Nat)),regD P Γ sz all l E H recs0 k →
  ∃ (xs:List Eff) (recs:List (List Nat × List Nat)),xs.length=l.length∧k (runU (usE l xs) 0 (fun _=>true) E) (runU (usH xs) 0 (fun _=>true) H) (recs.reverse++recs0) ∧
   ∀ (i:Nat) (o:Oper) (x:Eff) (r:List Nat × List Nat),l[i]? = some o→xs[i]? = some x→recs[i]? = some r →
    RecOK P Γ sz all (look (runU (usE l xs) 0 (fun j=>decide (j<i)) E)) (look (runU (usH xs) 0 (fun j=>decide (j<i)) H)) o x r
 | [],E,H,recs0,h=>⟨[],[],rfl,h,fun i o x r ho=>by simp at ho⟩
 | o::l,E,H,recs0,h=>by
  rw [regD_cons] at h
  have fin:∀ (x:Eff) (r:List Nat × List Nat),x.single=true→RecOK P Γ sz all (look E) (look H) o x r→regD P Γ sz all l (apE o.dst x E) (apH x H) (r::recs0) k →
    ∃ (xs:List Eff) (recs:List (List Nat × List Nat)),xs.length=(o::l).length∧k (runU (usE (o::l) xs) 0 (fun _=>true) E) (runU (usH xs) 0 (fun _=>true) H) (recs.reverse++recs0) ∧
     ∀ (i:Nat) (o':Oper) (x:Eff) (r:List Nat × List Nat),(o::l)[i]? = some o'→xs[i]? = some x→recs[i]? = some r →
      RecOK P Γ sz all (look (runU (usE (o::l) xs) 0 (fun j=>decide (j<i)) E)) (look (runU (usH xs) 0 (fun j=>decide (j<i)) H)) o' x r:=fun x r hsg hr hk=>by
   obtain ⟨xs,recs,h1,h2,h3⟩:=regD_trace l _ _ _ hk
   have eE:∀ X,runU (usE (o::l) (x::xs)) 0 X E=runU (usE l xs) 0 (fun j=>X (j+1)) (if X 0 then apE o.dst x E else E):=fun X=>by
    rw [← runU_shift,apE_push];rfl
   have eH:∀ X,runU (usH (x::xs)) 0 X H=runU (usH xs) 0 (fun j=>X (j+1)) (if X 0 then apH x H else H):=fun X=>by
    rw [← runU_shift,apH_push hsg];rfl
   refine ⟨x::xs,r::recs,by simp [h1],?_,fun i o' x' r' ho hx hr' => ?_⟩
   ·rw [eE,eH]
    simpa using h2
   ·cases i with
    | zero =>
     simp at ho hx hr'
     subst ho hx hr'
     rw [lt_zero_fun,runU_none,runU_none]
     exact hr
    | succ i =>
     rw [eE,eH,lt_succ_fun]
     simpa using h3 i o' x' r' (by simpa using ho) (by simpa using hx) (by simpa using hr')
  rcases GV.run_val h with ⟨hg,h⟩|⟨hg,h⟩
  ·obtain ⟨x,hx,hk⟩:=SR.run_has h
   rw [frcE_iff,sngE_iff,frcN_iff,frcN_iff,ap2_iff] at hk
   exact fin x _ hk.1 (.inl ⟨rfl,hk.1,.inl ⟨hg,hx⟩,rfl⟩) hk.2
  ·split at h
   ·rename_i hd
    rw [ap2_iff] at h
    exact fin skipE _ rfl (.inr ⟨rfl,rfl,hg,hd⟩) h
   ·exact h.elim
theorem regD_sound (hm:P.follows .mixedOrders=true) (hΓ:ΓOK P Γ) (hdm:Γ.dm=false→C w0.heap.size) {ops:Array Oper} {id:Nat} {k:Env→Hp→Prop} {Q:Exit→Act→World→Prop} (hQ:∀ E H ρ a w,k E H→Rel C M0 w0 sz ρ E H a w→Q .normal a w)
  {E:Env} {H:Hp} {ρ:Nat→Nm} {a:Act} {w:World} (R:Rel C M0 w0 sz ρ E H a w) (h:regD P Γ sz ops.toList ops.toList E H [] fun E H recs=>chk ops.toList recs.reverse=true∧k E H):(Code.region id ops true).wp P Q a w:=by
 obtain ⟨xs,recs,h1,⟨h2,h3⟩,h4⟩:=regD_trace _ _ _ _ h
 rw [List.append_nil,List.reverse_reverse] at h2
 refine wp_region_any hm ?_
 have R':Rel C M0 w0 sz ρ E H a { w with drawn:=w.drawn+1 }:=R.grow ⟨rfl,rfl,rfl,Nat.le_refl _,fun _ _=>rfl⟩ (.inr (Nat.le_succ _))
 have hf:(fun j=>(Array.replicate ops.size false).getD j false)=fun _=>false:=by
  funext j
  simp [Array.getElem?_replicate]
  split<;>rfl
 have:=draw_any (M0:=M0) (w0:=w0) (Q:=Q) hΓ hdm h1 (chk_spec h2) (fun i o x r ho hx hr=>h4 i o x r ho hx hr) (fun ρ a w R=>hQ _ _ ρ a w h3 R) ops.size (Array.replicate ops.size false) a { w with drawn:=w.drawn+1 } (by simp)
  (by simp [List.countP_replicate]) (fun i o ho hl=>by simp [Array.getElem?_replicate] at hl;split at hl<;>simp at hl) ⟨ρ,by rw [hf,runU_none,runU_none];exact R'⟩
 simpa using this
theorem code_sound (hm:P.follows .mixedOrders=true) (hΓ:ΓOK P Γ) (hdm:Γ.dm=false→C w0.heap.size):∀ (c:Code) (E:Env) (H:Hp) (k:Exit→Env→Hp→Prop),code P Γ sz c E H k →
  ∀ (ρ:Nat→Nm) (a:Act) (w:World) (Q:Exit→Act→World→Prop),Rel C M0 w0 sz ρ E H a w→(∀ ex E' H' ρ' a' w',k ex E' H'→Rel C M0 w0 sz ρ' E' H' a' w'→Q ex a' w')→c.wp P Q a w
 | .skip,E,H,k,h,ρ,a,w,Q,R,hQ=>wp_skip (hQ _ _ _ _ _ _ h R)
 | .label _,E,H,k,h,ρ,a,w,Q,R,hQ=>wp_label (hQ _ _ _ _ _ _ h R)
 | .region id ops draw,E,H,k,h,ρ,a,w,Q,R,hQ=>by
  cases draw with
  | false =>
   refine wp_region ?_
   have:=regS_sound (Q:=Q) hΓ hdm (fun E H ρ a w hk R=>hQ _ _ _ _ _ _ hk R) ops.toList 0 E H ρ a w (by simp) R h
   simpa [List.range_eq_range'] using this
  | true=>exact regD_sound hm hΓ hdm (fun E H ρ a w hk R=>hQ _ _ _ _ _ _ hk R) R h
 | .seq c d,E,H,k,h,ρ,a,w,Q,R,hQ=>by
  refine wp_seq (code_sound hm hΓ hdm c E H _ h ρ a w _ R fun ex E' H' ρ' a' w' hk R' => ?_)
  cases ex<;>first
  | exact code_sound hm hΓ hdm d _ _ _ hk ρ' a' w' Q R' hQ
  | exact hQ _ _ _ _ _ _ hk R'
 | .cond c t e,E,H,k,h,ρ,a,w,Q,R,hQ=>by
  have h:cCond c (code P Γ sz t) (code P Γ sz e) E H k:=h
  unfold cCond at h
  split at h
  ·rename_i b hb
   have h1:Rep w (Mof M0 ρ H) (.v (.bool b)) (a.eval c):=(ev_ok R hb).1
   generalize hc:a.eval c=v at h1
   cases h1
   refine wp_cond hc ?_
   cases b with
   | true=>exact code_sound hm hΓ hdm t _ _ _ (h.t rfl) ρ a w Q R hQ
   | false=>exact code_sound hm hΓ hdm e _ _ _ (h.f rfl) ρ a w Q R hQ
  ·exact h.elim
 | .block id c,E,H,k,h,ρ,a,w,Q,R,hQ=>by
  refine wp_block (code_sound hm hΓ hdm c E H _ h ρ a w _ R fun ex E' H' ρ' a' w' hk R' => ?_)
  cases ex with
  | exit id' =>
   simp only at hk
   unfold Exit.inBlock
   split at hk
   ·rename_i hb
    have:id'=id:=by simpa using hb
    simp only [this,if_true]
    exact hQ _ _ _ _ _ _ hk R'
   ·rename_i hb
    have:id'≠id:=by rintro rfl;simp at hb
    simp only [this,if_false]
    exact hQ _ _ _ _ _ _ hk R'
  | _=>exact hQ _ _ _ _ _ _ hk R'
 | .exit id,E,H,k,h,ρ,a,w,Q,R,hQ=>wp_exit (hQ _ _ _ _ _ _ h R)
 | .ret,E,H,k,h,ρ,a,w,Q,R,hQ=>wp_ret (hQ _ _ _ _ _ _ h R)
 | .loop body,E,H,k,h,ρ,a,w,Q,R,hQ=>h.run _ _ _ _ _ _ _ hdm R hQ
 | .scope _,E,H,k,h,ρ,a,w,Q,R,hQ=>h.run _ _ _ _ _ _ _ hdm R hQ
 | .goto _,E,H,k,h,ρ,a,w,Q,R,hQ=>wp_goto (hQ _ _ _ _ _ _ h R)
 | .rangeFunc ..,E,H,k,h,ρ,a,w,Q,R,hQ=>h.run _ _ _ _ _ _ _ hdm R hQ
 | .refuse _,_,_,_,h,_,_,_,_,_,_=>h.elim
end
end Sx
end Go.Proofs.YtddbmpbihpkabaaGreat
