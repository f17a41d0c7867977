import Derived.Test.YtfkfficabeclcaaGreatDoorGLTNamesAQ
import Derived.Shelf.SlSortCmp.WholeK
import Derived.Shelf.SlSortCmp.NoneTotal
import Derived.Ground.SlsfProg
import Derived.Test.YtfkfficabeclcaaGreatDoorProg
import Derived.Test.YtfkfficabeclcaaGreatDoorGLTNamesAN
import Derived.Test.YtfkfficabeclcaaGreatDoorGLTNamesAP
set_option linter.all false
namespace Go.Proofs
open Go.Shelf
def Tryz.sortPt_ren:Go.Shelf.Ren:=⟨fun|6=>47|15=>91|14=>90|28=>153|29=>154|20=>145|21=>146|22=>147|23=>148|24=>149|25=>150|26=>151|27=>152|46=>196|47=>197|48=>198|49=>199|50=>200|57=>236|n=>n,fun|22=>37|24=>43|25=>98|3=>3|39=>152|0=>0|53=>212|55=>121|4=>4|46=>206|45=>205|50=>181|5=>5|9=>9|66=>254|70=>136|76=>290|77=>291|n=>n,fun|n=>n⟩
theorem Tryz.sortPt:Go.Proofs.SlLaysF0.n6 Tryz.prog Tryz.sortPt_ren:={
 mixed:=by kernel_rfl
 f6:=⟨Tryz.f47.name,by decide,Tryz.func47.trans (congrArg some (by kernel_rfl))⟩
 f14:=⟨Tryz.f90.name,by decide,Tryz.func90.trans (congrArg some (by kernel_rfl))⟩
 f15:=Tryz.func91.trans (congrArg some (by kernel_rfl))
 f20:=⟨Tryz.f145.name,by decide,Tryz.func145.trans (congrArg some (by kernel_rfl))⟩
 f21:=⟨Tryz.f146.name,by decide,Tryz.func146.trans (congrArg some (by kernel_rfl))⟩
 f22:=⟨Tryz.f147.name,by decide,Tryz.func147.trans (congrArg some (by kernel_rfl))⟩
 f23:=⟨Tryz.f148.name,by decide,Tryz.func148.trans (congrArg some (by kernel_rfl))⟩
 f24:=⟨Tryz.f149.name,by decide,Tryz.func149.trans (congrArg some (by kernel_rfl))⟩
 f25:=⟨Tryz.f150.name,by decide,Tryz.func150.trans (congrArg some (by kernel_rfl))⟩
 f26:=⟨Tryz.f151.name,by decide,Tryz.func151.trans (congrArg some (by kernel_rfl))⟩
 f27:=⟨Tryz.f152.name,by decide,Tryz.func152.trans (congrArg some (by kernel_rfl))⟩
 f28:=Tryz.func153.trans (congrArg some (by kernel_rfl))
 f29:=Tryz.func154.trans (congrArg some (by kernel_rfl))
 f46:=⟨Tryz.f196.name,by decide,Tryz.func196.trans (congrArg some (by kernel_rfl))⟩
 f47:=Tryz.func197.trans (congrArg some (by kernel_rfl))
 f48:=Tryz.func198.trans (congrArg some (by kernel_rfl))
 f49:=⟨Tryz.f199.name,by decide,Tryz.func199.trans (congrArg some (by kernel_rfl))⟩
 f50:=⟨Tryz.f200.name,by decide,Tryz.func200.trans (congrArg some (by kernel_rfl))⟩
 f57:=⟨Tryz.f236.name,by decide,Tryz.func236.trans (congrArg some (by kernel_rfl))⟩
 t0:=Tryz.underlying0
 a0:=Tryz.isAgg0
 z0:=Tryz.sizeOf0
 v0:=Tryz.zeroValue0
 t3:=Tryz.underlying3
 a3:=Tryz.isAgg3
 z3:=Tryz.sizeOf3
 v3:=Tryz.zeroValue3
 t4:=Tryz.underlying4
 a4:=Tryz.isAgg4
 z4:=Tryz.sizeOf4
 v4:=Tryz.zeroValue4
 t5:=Tryz.underlying5
 a5:=Tryz.isAgg5
 z5:=Tryz.sizeOf5
 v5:=Tryz.zeroValue5
 t9:=Tryz.underlying9
 a9:=Tryz.isAgg9
 z9:=Tryz.sizeOf9
 v9:=Tryz.zeroValue9
 t22:=Tryz.underlying37
 a22:=Tryz.isAgg37
 z22:=Tryz.sizeOf37
 v22:=Tryz.zeroValue37
 t25:=Tryz.underlying98
 a25:=Tryz.isAgg98
 z25:=Tryz.sizeOf98
 v25:=Tryz.zeroValue98
 t39:=Tryz.underlying152
 a39:=Tryz.isAgg152
 z39:=Tryz.sizeOf152
 v39:=Tryz.zeroValue152
 t45:=Tryz.underlying205
 a45:=Tryz.isAgg205
 z45:=Tryz.sizeOf205
 v45:=Tryz.zeroValue205
 t46:=Tryz.underlying206
 a46:=Tryz.isAgg206
 z46:=Tryz.sizeOf206
 v46:=Tryz.zeroValue206
 t50:=Tryz.underlying181
 a50:=Tryz.isAgg181
 z50:=Tryz.sizeOf181
 v50:=Tryz.zeroValue181
 t53:=Tryz.underlying212
 a53:=Tryz.isAgg212
 z53:=Tryz.sizeOf212
 v53:=Tryz.zeroValue212
 t55:=Tryz.underlying121
 a55:=Tryz.isAgg121
 z55:=Tryz.sizeOf121
 v55:=Tryz.zeroValue121
 t66:=Tryz.underlying254
 a66:=Tryz.isAgg254
 z66:=Tryz.sizeOf254
 v66:=Tryz.zeroValue254
 t70:=Tryz.underlying136
 a70:=Tryz.isAgg136
 z70:=Tryz.sizeOf136
 v70:=Tryz.zeroValue136
 t76:=Tryz.underlying290
 a76:=Tryz.isAgg290
 z76:=Tryz.sizeOf290
 v76:=Tryz.zeroValue290
 t77:=Tryz.underlying291
 a77:=Tryz.isAgg291
 z77:=Tryz.sizeOf291
 v77:=Tryz.zeroValue291 }
def Tryz.sortMt_ren:Go.Shelf.Ren:=⟨fun|6=>204|15=>91|14=>239|28=>153|29=>154|20=>249|21=>250|22=>251|23=>252|24=>253|25=>254|26=>255|27=>256|46=>258|47=>197|48=>198|49=>259|50=>260|57=>261|n=>n,fun|22=>26|24=>31|25=>133|3=>3|39=>152|0=>0|53=>212|55=>121|4=>4|46=>206|45=>205|50=>181|5=>5|9=>9|66=>254|70=>136|76=>290|77=>291|n=>n,fun|n=>n⟩
theorem Tryz.sortMt:Go.Proofs.SlLaysF0.n6 Tryz.prog Tryz.sortMt_ren:={
 mixed:=by kernel_rfl
 f6:=⟨Tryz.f204.name,by decide,Tryz.func204.trans (congrArg some (by kernel_rfl))⟩
 f14:=⟨Tryz.f239.name,by decide,Tryz.func239.trans (congrArg some (by kernel_rfl))⟩
 f15:=Tryz.func91.trans (congrArg some (by kernel_rfl))
 f20:=⟨Tryz.f249.name,by decide,Tryz.func249.trans (congrArg some (by kernel_rfl))⟩
 f21:=⟨Tryz.f250.name,by decide,Tryz.func250.trans (congrArg some (by kernel_rfl))⟩
 f22:=⟨Tryz.f251.name,by decide,Tryz.func251.trans (congrArg some (by kernel_rfl))⟩
 f23:=⟨Tryz.f252.name,by decide,Tryz.func252.trans (congrArg some (by kernel_rfl))⟩
 f24:=⟨Tryz.f253.name,by decide,Tryz.func253.trans (congrArg some (by kernel_rfl))⟩
 f25:=⟨Tryz.f254.name,by decide,Tryz.func254.trans (congrArg some (by kernel_rfl))⟩
 f26:=⟨Tryz.f255.name,by decide,Tryz.func255.trans (congrArg some (by kernel_rfl))⟩
 f27:=⟨Tryz.f256.name,by decide,Tryz.func256.trans (congrArg some (by kernel_rfl))⟩
 f28:=Tryz.func153.trans (congrArg some (by kernel_rfl))
 f29:=Tryz.func154.trans (congrArg some (by kernel_rfl))
 f46:=⟨Tryz.f258.name,by decide,Tryz.func258.trans (congrArg some (by kernel_rfl))⟩
 f47:=Tryz.func197.trans (congrArg some (by kernel_rfl))
 f48:=Tryz.func198.trans (congrArg some (by kernel_rfl))
 f49:=⟨Tryz.f259.name,by decide,Tryz.func259.trans (congrArg some (by kernel_rfl))⟩
 f50:=⟨Tryz.f260.name,by decide,Tryz.func260.trans (congrArg some (by kernel_rfl))⟩
 f57:=⟨Tryz.f261.name,by decide,Tryz.func261.trans (congrArg some (by kernel_rfl))⟩
 t0:=Tryz.underlying0
 a0:=Tryz.isAgg0
 z0:=Tryz.sizeOf0
 v0:=Tryz.zeroValue0
 t3:=Tryz.underlying3
 a3:=Tryz.isAgg3
 z3:=Tryz.sizeOf3
 v3:=Tryz.zeroValue3
 t4:=Tryz.underlying4
 a4:=Tryz.isAgg4
 z4:=Tryz.sizeOf4
 v4:=Tryz.zeroValue4
 t5:=Tryz.underlying5
 a5:=Tryz.isAgg5
 z5:=Tryz.sizeOf5
 v5:=Tryz.zeroValue5
 t9:=Tryz.underlying9
 a9:=Tryz.isAgg9
 z9:=Tryz.sizeOf9
 v9:=Tryz.zeroValue9
 t22:=Tryz.underlying26
 a22:=Tryz.isAgg26
 z22:=Tryz.sizeOf26
 v22:=Tryz.zeroValue26
 t25:=Tryz.underlying133
 a25:=Tryz.isAgg133
 z25:=Tryz.sizeOf133
 v25:=Tryz.zeroValue133
 t39:=Tryz.underlying152
 a39:=Tryz.isAgg152
 z39:=Tryz.sizeOf152
 v39:=Tryz.zeroValue152
 t45:=Tryz.underlying205
 a45:=Tryz.isAgg205
 z45:=Tryz.sizeOf205
 v45:=Tryz.zeroValue205
 t46:=Tryz.underlying206
 a46:=Tryz.isAgg206
 z46:=Tryz.sizeOf206
 v46:=Tryz.zeroValue206
 t50:=Tryz.underlying181
 a50:=Tryz.isAgg181
 z50:=Tryz.sizeOf181
 v50:=Tryz.zeroValue181
 t53:=Tryz.underlying212
 a53:=Tryz.isAgg212
 z53:=Tryz.sizeOf212
 v53:=Tryz.zeroValue212
 t55:=Tryz.underlying121
 a55:=Tryz.isAgg121
 z55:=Tryz.sizeOf121
 v55:=Tryz.zeroValue121
 t66:=Tryz.underlying254
 a66:=Tryz.isAgg254
 z66:=Tryz.sizeOf254
 v66:=Tryz.zeroValue254
 t70:=Tryz.underlying136
 a70:=Tryz.isAgg136
 z70:=Tryz.sizeOf136
 v70:=Tryz.zeroValue136
 t76:=Tryz.underlying290
 a76:=Tryz.isAgg290
 z76:=Tryz.sizeOf290
 v76:=Tryz.zeroValue290
 t77:=Tryz.underlying291
 a77:=Tryz.isAgg291
 z77:=Tryz.sizeOf291
 v77:=Tryz.zeroValue291 }
end Go.Proofs

namespace Go.Proofs.YtfkfficabeclcaaGreatDoor
open Go Go.Shelf Go.RowKit Go.Lib Go.Sort Sx
namespace Sx
theorem flat_get2 {k:Nat} (hk0:0<k):∀ {l:List (List Value)} {t:Nat},(∀ x∈l,x.length=k)→t<l.length*k→l.flatten[t]? = (l[t / k]?).bind (fun x=>x[t % k]?)
 | [],t,_,h=>by simp at h
 | x::l,t,hk,h=>by
  have hx:=hk x (List.mem_cons_self ..)
  rw [List.flatten_cons]
  rcases Nat.lt_or_ge t k with h1|h1
  ·rw [List.getElem?_append_left (by omega),Nat.div_eq_of_lt h1,Nat.mod_eq_of_lt h1];rfl
  ·obtain ⟨u,rfl⟩:∃ u,t=u+k:=⟨t-k,by omega⟩
   rw [List.getElem?_append_right (by omega),hx,Nat.add_sub_cancel,flat_get2 hk0 (fun y hy=>hk y (List.mem_cons_of_mem _ hy)) (by simp only [List.length_cons,Nat.add_mul,Nat.one_mul] at h;omega),Nat.add_div_right _ hk0,Nat.add_mod_right]
   rfl
theorem flat_len2 {k:Nat}:∀ {l:List (List Value)},(∀ x∈l,x.length=k)→l.flatten.length=l.length*k
 | [],_=>by simp
 | x::l,hk=>by
  rw [List.flatten_cons,List.length_append,hk x (List.mem_cons_self ..),flat_len2 fun y hy=>hk y (List.mem_cons_of_mem _ hy),List.length_cons,Nat.add_mul,Nat.one_mul]
  omega
theorem flatK_toList {α:Type} [Inhabited α] {enc:α→List Value} {k:Nat} (hk0:0<k) (hk:∀ x,(enc x).length=k) (d:List α):(flatK enc k d.toArray).toList=(d.map enc).flatten:=by
 have hm:∀ x∈d.map enc,x.length=k:=fun x hx=>by obtain ⟨y,_,rfl⟩:=List.mem_map.1 hx;exact hk y
 have hl:=flat_len2 hm
 rw [List.length_map] at hl
 refine List.ext_getElem? fun t => ?_
 rcases Nat.lt_or_ge t (d.length*k) with h|h
 ·have h2:=get_flatK enc k d.toArray t (by simpa using h)
  have hd:t / k<d.length:=Nat.div_lt_of_lt_mul (by rw [Nat.mul_comm];exact h)
  have hsz:t<(flatK enc k d.toArray).size:=by simpa using h
  rw [getElem!_pos (flatK enc k d.toArray) t hsz] at h2
  rw [flat_get2 hk0 hm (by simpa using h),List.getElem?_map,List.getElem?_eq_getElem hd,Array.getElem?_toList,Array.getElem?_eq_getElem hsz,h2]
  have e1:d.toArray[t / k]! = d[t / k]:=by rw [getElem!_pos d.toArray (t / k) (by simpa using hd)];simp
  rw [e1]
  have h3:t % k<(enc d[t / k]).length:=by rw [hk];exact Nat.mod_lt _ hk0
  rw [getElem!_pos (enc d[t / k]) (t % k) h3]
  simp [List.getElem?_eq_getElem h3]
 ·rw [List.getElem?_eq_none (by simpa using h),List.getElem?_eq_none (by omega)]
theorem heap_sort {α:Type} [Inhabited α] {enc:α→List Value} {k n b:Nat} {dk:Array α} {os:Array Obj} {w:World} {c:Array Value} {T:TypeId} (hb:w.heap[b]? = some (.cells c T (0,0))) :
  (sortWorldK enc k w b 0 n dk os).heap[b]? = some (.cells (putCells id 0 (flatK enc k dk) c) T (0,0)):=by
 have hlt:b<w.heap.size:=(Array.getElem?_eq_some_iff.1 hb).1
 unfold sortWorldK grow putRowK putRow mapBlock
 simp only
 rw [Array.getElem?_append_left (by simpa [Sort.ahead] using hlt)]
 simp [Sort.ahead,Array.getElem?_modify,hb,onCells]
theorem heap_sort_other {α:Type} [Inhabited α] {enc:α→List Value} {k n b i:Nat} {dk:Array α} {os:Array Obj} {w:World} (hi:i<w.heap.size) (hne:i≠b):(sortWorldK enc k w b 0 n dk os).heap[i]? = w.heap[i]? := by
 unfold sortWorldK grow putRowK putRow mapBlock
 simp only
 rw [Array.getElem?_append_left (by simpa [Sort.ahead] using hi)]
 simp [Sort.ahead,Array.getElem?_modify,Ne.symm hne]
theorem size_sort {α:Type} [Inhabited α] {enc:α→List Value} {k n b:Nat} {dk:Array α} {os:Array Obj} {w:World}:w.heap.size≤(sortWorldK enc k w b 0 n dk os).heap.size:=by
 unfold sortWorldK grow putRowK putRow mapBlock
 simp [Sort.ahead]
theorem put_flat {F:Array Value} {c:List Value} (h:F.size≤c.length):(putCells id 0 F c.toArray).toList=F.toList++c.drop F.size:=by
 refine List.ext_getElem? fun t => ?_
 rw [Array.getElem?_toList]
 unfold putCells
 rw [Array.getElem?_mapIdx]
 rcases Nat.lt_or_ge t F.size with h1|h1
 ·rw [List.getElem?_append_left (by simpa using h1)]
  have:t<c.length:=by omega
  simp [h1,this]
 ·rw [List.getElem?_append_right (by simpa using h1)]
  simp only [List.getElem?_drop,Array.length_toList]
  rw [show F.size+(t-F.size)=t by omega]
  simp
  have:¬ t<F.size:=by omega
  simp [this]
theorem dsR_flat {w:World} {M:Nat→Prop}:∀ {xs vs:List Value},DsR w M (xs.map .v) vs→vs=xs
 | [],[],_=>rfl
 | x::xs,v::vs,h=>by
  have h1:Rep w M (.v x) v:=h.1
  cases h1
  rw [dsR_flat h.2]
 | [],_::_,h=>h.elim
 | _::_,[],h=>h.elim
theorem dsR_of_flat {w:World} {M:Nat→Prop}:∀ {xs:List Value},(∀ v∈xs,v.oneCell'=true∧wfV v)→DsR w M (xs.map .v) xs
 | [],_=>trivial
 | x::xs,h=>⟨.v x (h x (List.mem_cons_self ..)).1 (h x (List.mem_cons_self ..)).2,dsR_of_flat fun v hv=>h v (List.mem_cons_of_mem _ hv)⟩
theorem flatL_v:∀ (xs:List Value),flatL (xs.map .v)=true
 | []=>rfl
 | x::xs=>flatL_v xs
theorem flatten_v {α:Type} {enc:α→List Value} (d:List α):(d.map fun x=>(enc x).map D.v).flatten=((d.map enc).flatten).map D.v:=by
 induction d with
 | nil=>rfl
 | cons x d ih=>rw [List.map_cons,List.flatten_cons,ih,List.map_cons,List.flatten_cons,List.map_append]
theorem sort_mu {P:Program} {ρ:Ren} {α:Type} [Inhabited α] (L:SlLaysF0.n6 P ρ) {k:Nat} (hk0:0<k) (aE:∀ w,(isAgg (ρ.t 24)).run P w=.ok true w) (zE:∀ w,(Go.sizeOf (ρ.t 24)).run P w=.ok k w)
  (enc:α→List Value) (hk:∀ x,(enc x).length=k) (h1:∀ x,∀ v∈enc x,v.oneCell'=true∧wfV v) (cf:α→α→Int) (hO:SWO (ltOf cf)) (hT:∀ x y,ltOf cf x y=false→ltOf cf y x=false→x=y) {g:Nat} {caps:List (List D)}
  (eg:∀ args w,(callFunc g args).run P w=.ok (.enter g args) w) (es:∀ args w,(callFunc (ρ.f 6) args).run P w=.ok (.enter (ρ.f 6) args) w)
  (hcmp:∀ x y,FnD P g ([.agg ((enc x).map .v),.agg ((enc y).map .v)]++refsC caps) (.c (.one (.v (.int .i64 (cf x y)))))) (d:List α) (hsz:d.length<4611686018427387904) :
  FnMu P (ρ.f 6) k (d.map fun x=>(enc x).map .v) [.one (.clo g caps)] ((d.mergeSort fun x y => !(ltOf cf) y x).map fun x=>(enc x).map .v):=by
 refine ⟨fun e he => ?_,fun w M v vs m hM hm hvs hB hv => ?_⟩
 ·obtain ⟨x,_,rfl⟩:=List.mem_map.1 he
  exact flatL_v _
 match vs,hvs with
 | [u],⟨hu,_⟩ =>
  obtain ⟨ps,rfl,hps⟩:=crefs_rel (show Rep w M (.clo g caps) u from hu)
  obtain ⟨x,rfl,hx⟩:=hv
  obtain ⟨⟨k1,k2,k3,k4,k5⟩,hreal⟩:=hB
  refine ⟨ρ.f 6,es _ _,?_⟩
  rw [List.length_map] at k2
  cases d with
  | nil =>
   have k2:0=m.len:=k2
   rw [← k2]
   refine (AnyF.slices_SortFunc_none L x m.cap _ w).mono ?_
   rintro e w' ⟨rfl,rfl⟩
   exact ⟨rfl,.refl _ _ _,⟨by simp,by simpa using k2,fun _=>by simp,rfl,k5⟩,by simpa using hreal⟩
  | cons y ys =>
   have hc0:0<m.cap:=by
    rcases Nat.eq_zero_or_pos m.cap with h|h
    ·have:=k3 h;simp at this
    ·exact h
   rw [hx hc0,← k2]
   obtain ⟨cs,⟨T,hcs⟩,c1,c2,c3,vals,rest,c4,c5⟩:=hreal (by simpa [Blk.real] using hc0)
   rw [flatten_v] at c5
   have hvals:=dsR_flat c5
   generalize hd:y::ys=d at *
   have hm':∀ x∈d.map enc,x.length=k:=fun x hx=>by obtain ⟨y,_,rfl⟩:=List.mem_map.1 hx;exact hk y
   have hfl:(d.map enc).flatten.length=d.length*k:=by rw [flat_len2 hm',List.length_map]
   have hbl:m.b<w.heap.size:=hM _ (hm hc0)
   have hH:HoldsK enc k w m.b 0 d.toArray:=by
    intro j hj
    have hj':j<d.length*k:=by simpa using hj
    rw [Nat.zero_add]
    refine ⟨?_,frozen_of_row w m.b j cs.toArray T hcs⟩
    rw [cell_of ⟨T,hcs⟩,c4,List.getElem?_append_left (by rw [hvals,hfl];exact hj'),hvals,← flatK_toList hk0 hk,Array.getElem?_toList,getElem!_pos (flatK enc k d.toArray) j hj,Array.getElem?_eq_getElem hj]
    rfl
   have hHold:∀ n (dk:Array α) os,Sx.Holds M w (sortWorldK enc k w m.b 0 n dk os):=fun n dk os =>
    ⟨size_sort,fun b hb hMb _=>heap_sort_other hb fun e=>hMb (by rw [e];exact hm hc0)⟩
   have hC:CmpLays P g ps.toArray enc k cf m.b 0 d.toArray.size w:=by
    intro n os dk hdk a b
    have hargs:DCsR (sortWorldK enc k w m.b 0 n dk os) M ([.agg ((enc a).map .v),.agg ((enc b).map .v)]++refsC caps) ([.agg (enc a).toArray,.agg (enc b).toArray]++ps) :=
     ⟨⟨_,rfl,dsR_of_flat (h1 a)⟩,⟨_,rfl,dsR_of_flat (h1 b)⟩,hps.mono (hHold n dk os) (fun _ _ h=>h)⟩
    rcases hcmp a b _ M _ ⟨fun b hb=>Nat.lt_of_lt_of_le (hM b hb) size_sort,gd_keep size_sort (fun b hb=>heap_sort_other (Nat.lt_of_lt_of_le hb (gd_size hM.gd)) fun e=>by have:=hM.ge _ (hm hc0);omega) hM.gd,hM.ge⟩ hargs with ⟨g',hg,hc⟩|⟨_,hg,_⟩
    ·rw [eg] at hg
     injection hg with h2
     injection h2 with h2
     subst h2
     have e:(#[Value.agg (enc a).toArray,.agg (enc b).toArray]++ps.toArray:Array Value)=([Value.agg (enc a).toArray,Value.agg (enc b).toArray]++ps).toArray:=by simp
     rw [e]
     refine hc.mono ?_
     rintro e w' ⟨u,rfl,hu,hb,hdr⟩
     have hu:Rep w' M (.v (.int .i64 (cf a b))) u:=hu
     cases hu
     obtain ⟨q,hq⟩:=regrown_of_below hb
     have hqd:w'.drawn=q.d:=by rw [hq];rfl
     refine ⟨rfl,q.d-(sortWorldK enc k w m.b 0 n dk os).drawn,q.os,?_⟩
     rw [hq]
     unfold redrawn World.drewN
     rw [show (sortWorldK enc k w m.b 0 n dk os).drawn+(q.d-(sortWorldK enc k w m.b 0 n dk os).drawn)=q.d by omega]
    ·rw [eg] at hg
     injection hg with h2
     cases h2
   have hlaw:=AnyQ.slices_SortFunc_total L k aE zE enc hk (fun x v hv=>(h1 x v hv).1) cf hO g ps.toArray m.b 0 m.cap d.toArray w eg hC hH hbl (by simpa using hsz) hT
   have e0:d.toArray.size=d.length:=by simp
   rw [e0] at hlaw
   refine hlaw.mono ?_
   rintro e w' ⟨rfl,n,os,rfl⟩
   generalize hs:(d.mergeSort fun x y => !(ltOf cf) y x)=s at *
   have hsl:s.length=d.length:=by rw [← hs];exact List.length_mergeSort _
   have hms:∀ x∈s.map enc,x.length=k:=fun x hx=>by obtain ⟨y,_,rfl⟩:=List.mem_map.1 hx;exact hk y
   have hsfl:(s.map enc).flatten.length=d.length*k:=by rw [flat_len2 hms,List.length_map,hsl]
   refine ⟨rfl,⟨rfl,rfl,rfl,size_sort,fun b hb hne=>heap_sort_other hb fun e=>hne ⟨hc0,e⟩,.inr ?_⟩,⟨fun x hx => ?_,by rw [List.length_map,hsl,k2],fun h=>by omega,rfl,k5⟩,fun _ => ?_⟩
   ·show w.drawn≤w.drawn+n
    omega
   ·obtain ⟨y,_,rfl⟩:=List.mem_map.1 hx
    rw [List.length_map];exact hk y
   ·have hsize:(flatK enc k s.toArray).size=d.length*k:=by simp [hsl]
    have hle:(flatK enc k s.toArray).size≤cs.length:=by rw [hsize,c3];exact Nat.mul_le_mul_right _ (by simpa using c1)
    refine ⟨(flatK enc k s.toArray).toList++cs.drop (flatK enc k s.toArray).size,⟨T,?_⟩,by rw [List.length_map,hsl];simpa using c1,c2,?_,(flatK enc k s.toArray).toList,cs.drop (flatK enc k s.toArray).size,rfl,?_⟩
    ·rw [heap_sort hcs,← put_flat hle]
    ·rw [List.length_append,Array.length_toList,List.length_drop]
     omega
    ·rw [flatten_v,flatK_toList hk0 hk]
     exact dsR_of_flat fun v hv=>by
      obtain ⟨x,hx,hvx⟩:=List.mem_flatten.1 hv
      obtain ⟨z,_,rfl⟩:=List.mem_map.1 hx
      exact h1 z v hvx
end Sx
end Go.Proofs.YtfkfficabeclcaaGreatDoor

namespace Go.Proofs.YtfkfficabeclcaaGreatDoor
open Go Go.RowKit Go.Sort Sx
def fx (n m:Int) (p:Pt):Int:=p.a*m+p.b*n
def ldr (n m:Int) (p q:Pt):Prop:=fx n m q<fx n m p∨fx n m p=fx n m q∧(q.b<p.b∨p.b=q.b∧p.id<q.id)
instance (n m:Int) (p q:Pt):Decidable (ldr n m p q):=by unfold ldr;infer_instance
def srt (n m:Int) (l:List Pt):List Pt:=l.mergeSort fun x y => !decide (ldr n m y x)
theorem leadN_ldr (n m:Int) (p q:Pt):leadN p.id p.b q.id q.b ((p.a-q.a)*m+(p.b-q.b)*n) > 0↔ldr n m p q:=by
 have e:(p.a-q.a)*m+(p.b-q.b)*n=fx n m p-fx n m q:=by unfold fx;simp only [Int.sub_mul];omega
 rw [e]
 unfold ldr leadN cmpN
 generalize fx n m p=x
 generalize fx n m q=y
 (repeat' split)<;>omega
def cfP (n m:Int) (p q:Pt):Int:=if p.id=q.id then 0 else if ldr n m p q then -1 else 1
theorem two02_ne {n m:Int} {p q:Pt} (hp:p.chk=0) (hq:q.chk=0) (ht:chk n m=0) (hne:p.id≠q.id):two02 p.id p.a p.b q.id q.a q.b n m=0:=by
 unfold two02
 rw [if_pos ⟨hp,hq,ht⟩,if_neg hne]
theorem fsorted1_fnd {n m:Int} {p q:Pt} (hp:p.chk=0) (hq:q.chk=0) (ht:chk n m=0):FnD Tryz.prog 122 [p.dc,q.dc,.one (.ref [i64 n,i64 m])] (ret1 (cfP n m p q)):=by
 have hcap:([[i64 n,i64 m]]:List (List D))[0]? = some [i64 n,i64 m]:=rfl
 unfold cfP
 by_cases h:p.id=q.id
 ·rw [if_pos h]
  refine fn_okD (by kernel_rfl) ty_okD rfl Tryz.func122 rfl (fun _ _=>Tryz.call122 _ _) rfl ?_
  intro hw
  clear hw
  repeat' ((conv=>whnf);first|(with_reducible first|refine br_t ?_|refine br_f ?_|refine zd ?_|refine za ?_|refine zg ?_)|refine zp ?_|refine zq ?_|(with_reducible first|refine bc (fun h => ?_) (fun h => ?_)|refine zt ?_|refine zf ?_|refine br_i (fun h => ?_) (fun h => ?_))|refine zg ?_|refine zi ?_|refine zb ?_)
  all_goals conv=>whnf
  all_goals rfl
 ·rw [if_neg h]
  have H:=kAhead_fnd p.id p.a p.b q.id q.a q.b n m
  unfold aheadV at H
  rw [if_pos (two02_ne hp hq ht h)] at H
  simp only [retBI] at H
  by_cases hl:ldr n m p q
  ·rw [if_pos hl]
   rw [decide_eq_true ((leadN_ldr n m p q).2 hl)] at H
   refine fn_okD (by kernel_rfl) ty_okD rfl Tryz.func122 rfl (fun _ _=>Tryz.call122 _ _) rfl ?_
   intro hw
   clear hw
   repeat' ((conv=>whnf);first|(with_reducible first|refine br_t ?_|refine br_f ?_|refine zd ?_|refine za ?_|refine zg ?_)|refine zp ?_|refine zq ?_|(with_reducible first|refine bc (fun h => ?_) (fun h => ?_)|refine zt ?_|refine zf ?_|refine br_i (fun h => ?_) (fun h => ?_))|refine zg ?_|refine zi ?_|refine zb ?_)
   all_goals conv=>whnf
   all_goals rfl
  ·rw [if_neg hl]
   rw [decide_eq_false (fun h=>hl ((leadN_ldr n m p q).1 h))] at H
   refine fn_okD (by kernel_rfl) ty_okD rfl Tryz.func122 rfl (fun _ _=>Tryz.call122 _ _) rfl ?_
   intro hw
   clear hw
   repeat' ((conv=>whnf);first|(with_reducible first|refine br_t ?_|refine br_f ?_|refine zd ?_|refine za ?_|refine zg ?_)|refine zp ?_|refine zq ?_|(with_reducible first|refine bc (fun h => ?_) (fun h => ?_)|refine zt ?_|refine zf ?_|refine br_i (fun h => ?_) (fun h => ?_))|refine zg ?_|refine zi ?_|refine zb ?_)
   all_goals conv=>whnf
   all_goals rfl
def apart (l:List Pt):Prop:=∀ p∈l,∀ q∈l,p.id=q.id→p=q
theorem incr_apart {l:List Pt} (h:incr l=true):apart l:=by
 intro p hp q hq e
 obtain ⟨i,hi,rfl⟩:=List.getElem_of_mem hp
 obtain ⟨j,hj,rfl⟩:=List.getElem_of_mem hq
 rcases Nat.lt_trichotomy i j with h1|h1|h1
 ·have:=incr_lt h j i hj h1;omega
 ·exact getElem_congr rfl h1 _
 ·have:=incr_lt h i j hi h1;omega
theorem lt_cfP {n m:Int} {l:List Pt} (ha:apart l) {p q:Pt} (hp:p∈l) (hq:q∈l):ltOf (cfP n m) p q=decide (ldr n m p q):=by
 unfold ltOf cfP
 by_cases h:p.id=q.id
 ·have:=ha p hp q hq h
  subst this
  rw [if_pos rfl]
  have:¬ ldr n m p p:=by unfold ldr;omega
  simp [this]
 ·rw [if_neg h]
  by_cases hl:ldr n m p q<;>simp [hl]
theorem sortPt_mu {n m:Int} {l:List Pt} (hl:∀ p∈l,p.chk=0) (ha:apart l) (ht:chk n m=0) (hsz:l.length≤1000000):FnMu Tryz.prog 47 3 (l.map Pt.c) [.one (.clo 122 [[i64 n,i64 m]])] ((srt n m l).map Pt.c):=by
 cases l with
 | nil =>
  have:=sort_mu (P:=Tryz.prog) (ρ:=Tryz.sortPt_ren) (α:=Unit) (k:=3) Tryz.sortPt (by decide) Tryz.isAgg43 Tryz.sizeOf43 (fun _=>[.int .i64 0,.int .i64 0,.int .i64 0]) (fun _=>rfl) (fun _ v hv=>by simp at hv;subst hv;exact ⟨rfl,WD_v.1 (wd_i64.2 (by omega))⟩) (fun _ _=>0)
   ⟨fun _=>rfl,fun _ _ _ h=>by simp [ltOf] at h,fun _ _ _ _ _=>rfl⟩ (fun _ _ _ _=>rfl) (g:=122) (caps:=[[i64 n,i64 m]]) (fun _ _=>Tryz.call122 _ _) (fun _ _=>Tryz.call47 _ _)
   (fun _ _=>by
    have:=fsorted1_fnd (n:=n) (m:=m) (p:=⟨0,0,0⟩) (q:=⟨0,0,0⟩) rfl rfl ht
    unfold cfP at this
    rw [if_pos rfl] at this
    exact this) [] (by decide)
  simp only [List.map_nil,List.mergeSort_nil] at this
  rw [show srt n m []=[] by simp [srt]]
  exact this
 | cons y ys =>
  generalize hd:y::ys=l at *
  have:Inhabited {p:Pt // p∈l}:=⟨⟨y,by rw [← hd];exact List.mem_cons_self ..⟩⟩
  have key:=sort_mu (P:=Tryz.prog) (ρ:=Tryz.sortPt_ren) (α:={p:Pt // p∈l}) (k:=3) Tryz.sortPt (by decide) Tryz.isAgg43 Tryz.sizeOf43 (fun p=>[.int .i64 p.1.id,.int .i64 p.1.a,.int .i64 p.1.b]) (fun _=>rfl) (fun p v hv=>by
    have hc:=cpt_ok (hl p.1 p.2)
    simp at hv
    rcases hv with rfl|rfl|rfl
    all_goals exact ⟨rfl,WD_v.1 (wd_i64.2 (by omega))⟩) (fun p q=>cfP n m p.1 q.1)
   ⟨fun p => ?_,fun p q r h1 h2 => ?_,fun p q r h1 h2 => ?_⟩ (fun p q h1 h2 => ?_) (g:=122) (caps:=[[i64 n,i64 m]]) (fun _ _=>Tryz.call122 _ _) (fun _ _=>Tryz.call47 _ _)
   (fun p q=>fsorted1_fnd (hl p.1 p.2) (hl q.1 q.2) ht) l.attach (by simp;omega)
  ·have e1:(l.attach.map fun p=>([.int .i64 p.1.id,.int .i64 p.1.a,.int .i64 p.1.b]:List Value).map D.v)=l.map Pt.c:=by
    rw [show (fun p:{p:Pt // p∈l}=>([.int .i64 p.1.id,.int .i64 p.1.a,.int .i64 p.1.b]:List Value).map D.v)=Pt.c ∘ Subtype.val from rfl,← List.map_map,List.attach_map_subtype_val]
   have e2:((l.attach.mergeSort fun x y => !(ltOf fun p q:{p:Pt // p∈l}=>cfP n m p.1 q.1) y x).map fun p=>([.int .i64 p.1.id,.int .i64 p.1.a,.int .i64 p.1.b]:List Value).map D.v)=(srt n m l).map Pt.c:=by
    rw [show (fun p:{p:Pt // p∈l}=>([.int .i64 p.1.id,.int .i64 p.1.a,.int .i64 p.1.b]:List Value).map D.v)=Pt.c ∘ Subtype.val from rfl,← List.map_map]
    rw [List.map_mergeSort (s:=fun x y => !decide (ldr n m y x)) (fun a _ b _=>by
     have:=lt_cfP (n:=n) (m:=m) ha b.2 a.2
     unfold ltOf at this ⊢
     rw [this]),List.attach_map_subtype_val]
    rfl
   rw [e1,e2] at key
   exact key
  ·exact (lt_cfP ha p.2 p.2).trans (decide_eq_false (by unfold ldr;omega))
  ·have k1:=of_decide_eq_true ((lt_cfP ha p.2 q.2).symm.trans h1)
   have k2:=of_decide_eq_true ((lt_cfP ha q.2 r.2).symm.trans h2)
   exact (lt_cfP ha p.2 r.2).trans (decide_eq_true (by unfold ldr at *;omega))
  ·have k1:=of_decide_eq_false ((lt_cfP ha p.2 q.2).symm.trans h1)
   have k2:=of_decide_eq_false ((lt_cfP ha q.2 r.2).symm.trans h2)
   exact (lt_cfP ha p.2 r.2).trans (decide_eq_false (by unfold ldr at *;omega))
  ·have k1:=of_decide_eq_false ((lt_cfP ha p.2 q.2).symm.trans h1)
   have k2:=of_decide_eq_false ((lt_cfP ha q.2 p.2).symm.trans h2)
   exact Subtype.ext (ha _ p.2 _ q.2 (by unfold ldr at *;omega))
end Go.Proofs.YtfkfficabeclcaaGreatDoor

namespace Go.Proofs.YtfkfficabeclcaaGreatDoor
open Go Go.RowKit Go.Sort Sx
def tchk (l:List Pt) (n m:Int):Int:=if fchk l=0 then chk n m else fchk l
abbrev retL (l:List Pt) (e:Int):DV:=.tup [.one (pts l),.one (i64 e)]
theorem fsorted_fn (l:List Pt) (n m:Int):FnOK Tryz.prog 69 [fld l,rat n m] (if tchk l n m=0 then retL (srt n m l) 0 else retL [] (tchk l n m)):=by
 have H1:=fCheck_fn l
 have H2:=check_fn n m
 unfold tchk
 by_cases h1:fchk l=0
 ·obtain ⟨k1,k2,k3⟩:=fchk_ok h1
  simp only [if_pos h1]
  rw [h1] at H1
  by_cases h2:chk n m=0
  ·rw [if_pos h2]
   rw [h2] at H2
   have H3:=clonePt_own (l.map Pt.c) (by simp;omega)
   have H4:=sortPt_mu (n:=n) (m:=m) k2 (incr_apart k3) h2 (by omega)
   refine fn_ok (by kernel_rfl) (ty_okK [21] [47] [] []) Tryz.func69 rfl (fun _ _=>Tryz.call69 _ _) rfl ?_
   intro hw
   clear hw
   exact zw
  ·rw [if_neg h2]
   have h8:chk n m=8:=(chk_08 n m).resolve_left h2
   rw [h8] at H2 ⊢
   refine fn_ok (by kernel_rfl) ty_ok Tryz.func69 rfl (fun _ _=>Tryz.call69 _ _) rfl ?_
   intro hw
   clear hw
   exact zw
 ·simp only [if_neg h1]
  generalize fchk l=z at *
  refine fn_ok (by kernel_rfl) ty_ok Tryz.func69 rfl (fun _ _=>Tryz.call69 _ _) rfl ?_
  intro hw
  clear hw
  exact zw
def leadV (l:List Pt) (n m:Int):Int × Int:=if tchk l n m=0 then (if l.length=0 then (0,42) else (((srt n m l)[0]?.getD default).id,0)) else (0,tchk l n m)
theorem fLeader_fn (l:List Pt) (n m:Int):FnOK Tryz.prog 105 [fld l,rat n m] (ret2 (leadV l n m)):=by
 refine fn_ok (by kernel_rfl) ty_ok Tryz.func105 rfl (fun _ _=>Tryz.call105 _ _) rfl ?_
 intro hw
 clear hw
 have H:=fsorted_fn l n m
 unfold leadV
 by_cases h:tchk l n m=0
 ·rw [if_pos h] at H ⊢
  have hl:(srt n m l).length=l.length:=List.length_mergeSort _
  by_cases h0:l.length=0
  ·rw [if_pos h0]
   repeat' ((conv=>whnf);first|(with_reducible first|refine br_t ?_|refine br_f ?_|refine za ?_|refine zg ?_)|rw [List.length_map]|refine zp ?_|refine zq ?_|(with_reducible first|refine bc (fun h => ?_) (fun h => ?_)|refine zt ?_|refine zf ?_|refine br_i (fun h => ?_) (fun h => ?_))|refine zg ?_|refine zi ?_|refine zb ?_)
   all_goals conv=>whnf
   all_goals rfl
  ·rw [if_neg h0]
   have hlt:0<(srt n m l).length:=by omega
   have hel:=pts_get hlt
   rw [List.getElem?_eq_getElem hlt]
   repeat' ((conv=>whnf);first|(with_reducible first|refine br_t ?_|refine br_f ?_|refine za ?_|refine zg ?_)|rw [List.length_map]|refine zp ?_|refine zq ?_|(with_reducible first|refine bc (fun h => ?_) (fun h => ?_)|refine zt ?_|refine zf ?_|refine br_i (fun h => ?_) (fun h => ?_))|refine zg ?_|refine zi ?_|refine zb ?_)
   all_goals conv=>whnf
   all_goals rfl
 ·rw [if_neg h] at H ⊢
  generalize tchk l n m=z at *
  exact zw
end Go.Proofs.YtfkfficabeclcaaGreatDoor

namespace Go.Proofs.YtfkfficabeclcaaGreatDoor
open Go Go.RowKit Go.Sort Sx
theorem srt_perm (n m:Int) (l:List Pt):(srt n m l).Perm l:=List.mergeSort_perm l _
theorem srt_len (n m:Int) (l:List Pt):(srt n m l).length=l.length:=List.length_mergeSort _
theorem srt_sorted (n m:Int) (l:List Pt):(srt n m l).Pairwise fun x y=>¬ ldr n m y x:=by
 have h:=List.pairwise_mergeSort (le:=fun x y => !decide (ldr n m y x)) (fun a b c h1 h2=>by
  simp at *
  unfold ldr at *
  omega) (fun a b=>by
  simp only [Bool.or_eq_true,Bool.not_eq_true',decide_eq_false_iff_not]
  unfold ldr
  omega) l
 exact h.imp fun h=>by simpa using h
abbrev ints (l:List Int):D:=.list 1 (l.map fun i=>[i64 i])
def ordV (l:List Pt) (n m:Int):List Int:=(srt n m l).map Pt.id
end Go.Proofs.YtfkfficabeclcaaGreatDoor

namespace Go.Proofs.YtfkfficabeclcaaGreatDoor
open Go Go.RowKit Go.Sort Sx
theorem tchk_ok {l:List Pt} {n m:Int} (h:tchk l n m=0):fchk l=0∧chk n m=0:=by
 unfold tchk at h
 split at h
 ·exact ⟨by assumption,h⟩
 ·omega
theorem ints_get {l:List Int} {i:Nat} (h:i<l.length):(l.map fun i=>[i64 i])[((i:Nat):Int).toNat]? = some [i64 l[i]]:=by
 rw [Int.toNat_natCast,List.getElem?_map,List.getElem?_eq_getElem h];rfl
def orderV (l:List Pt) (n m:Int):List Int × Int:=if tchk l n m=0 then (ordV l n m,0) else ([],tchk l n m)
abbrev retO (x:List Int × Int):DV:=.tup [.one (ints x.1),.one (i64 x.2)]
def outI (s:List Pt) (i:Nat):List (List D):=(s.take i).map (fun p=>[i64 p.id])++List.replicate (s.length-i) [i64 0]
theorem outI_get {s:List Pt} {i:Nat} (h:i<s.length):(outI s i)[((i:Nat):Int).toNat]? = some [i64 0]:=by
 rw [Int.toNat_natCast,outI,List.getElem?_append_right (by simp;omega),List.getElem?_replicate,if_pos (by simp;omega)]
theorem outI_set {s:List Pt} {i:Nat} (h:i<s.length):(outI s i).set ((i:Nat):Int).toNat [i64 s[i].id]=outI s (i+1):=by
 rw [Int.toNat_natCast]
 unfold outI
 have hk:s.length-i=(s.length-(i+1))+1:=by omega
 rw [List.take_succ_eq_append_getElem h,hk,List.replicate_succ,List.set_append_right _ _ (by simp;omega)]
 have h0:i-((s.take i).map fun p:Pt=>[i64 p.id]).length=0:=by simp;omega
 rw [h0,List.map_append,List.append_assoc]
 rfl
theorem outI_len {s:List Pt} {i:Nat} (h:i≤s.length):(outI s i).length=s.length:=by simp [outI];omega
theorem fOrder_fn (l:List Pt) (n m:Int):FnOK Tryz.prog 33 [fld l,rat n m] (retO (orderV l n m)):=by
 refine fn_ok (by kernel_rfl) (ty_okK [22] [] [] []) Tryz.func33 rfl (fun _ _=>Tryz.call33 _ _) rfl ?_
 intro hw
 clear hw
 have H:=fsorted_fn l n m
 unfold orderV
 by_cases h:tchk l n m=0
 ·rw [if_pos h] at H ⊢
  obtain ⟨k1,k2,k3⟩:=fchk_ok (tchk_ok h).1
  have hl:(srt n m l).length=l.length:=srt_len n m l
  have e:(ordV l n m).map (fun i=>[i64 i])=outI (srt n m l) (srt n m l).length:=by simp [outI,ordV]
  generalize srt n m l=s at *
  repeat' ((conv=>whnf);first|(with_reducible first|refine br_t ?_|refine br_f ?_|refine za ?_|refine zg ?_|refine zo ?_)|rw [List.length_map]|refine zp ?_|refine zq ?_|(with_reducible first|refine bc (fun h => ?_) (fun h => ?_)|refine zt ?_|refine zf ?_|refine br_i (fun h => ?_) (fun h => ?_))|refine zg ?_|refine zi ?_|refine zb ?_|refine zl ?_)
  refine loop_J (by kernel_rfl) (ty_okK [22] [] [] []) (σ:=Nat) (fun i=>[(25,sV (.int .i64 i))]) (fun i=>[(22,.row 1 (outI s i) 0)]) (fun i=>i≤s.length) (fun i=>s.length-i) 0 (Nat.zero_le _) ?_ ?_
  ·(conv=>whnf);exact zent
  intro i hi
  have hol:=outI_len hi
  rcases Nat.lt_or_ge i s.length with hlt|hge
  ·have hel:=pts_get hlt
   have hel2:=outI_get hlt
   repeat' ((conv=>whnf);first|(with_reducible first|refine br_t ?_|refine br_f ?_|refine za ?_|refine zg ?_|refine zo ?_)|rw [List.length_map]|refine zp ?_|refine zq ?_|(with_reducible first|refine bc (fun h => ?_) (fun h => ?_)|refine zt ?_|refine zf ?_|refine br_i (fun h => ?_) (fun h => ?_))|refine zg ?_|refine zi ?_|refine zb ?_|refine zl ?_)
   all_goals conv=>whnf
   refine ⟨i+1,by omega,?_,by omega⟩
   (conv=>whnf);refine ⟨by repeat' (first|with_reducible exact zE0|with_reducible refine zE1 ?_ ?_|rfl|assumption|(exact congrArg (fun x=>some (Blk.row 1 x 0)) (outI_set hlt))|exact zi1|exact zb1),by repeat' (first|with_reducible exact zH0|with_reducible refine zH1 ?_ ?_|rfl|assumption|(exact congrArg (fun x=>some (Blk.row 1 x 0)) (outI_set hlt))),rfl⟩
  ·obtain rfl:i=s.length:=by omega
   repeat' ((conv=>whnf);first|(with_reducible first|refine br_t ?_|refine br_f ?_|refine za ?_|refine zg ?_|refine zo ?_)|rw [List.length_map]|refine zp ?_|refine zq ?_|(with_reducible first|refine bc (fun h => ?_) (fun h => ?_)|refine zt ?_|refine zf ?_|refine br_i (fun h => ?_) (fun h => ?_))|refine zg ?_|refine zi ?_|refine zb ?_|refine zl ?_)
   all_goals conv=>whnf
   all_goals exact congrArg (fun x=>DV.tup [.one (.list 1 x),.one (i64 0)]) e.symm
 ·rw [if_neg h] at H ⊢
  generalize tchk l n m=z at *
  exact zw
def findV (l:List Pt) (id:Int):Pt × Int:=if fchk l=0 then (if has l id then (l[pos l id]?.getD default,0) else (⟨0,0,0⟩,6)) else (⟨0,0,0⟩,fchk l)
abbrev retPt (x:Pt × Int):DV:=.tup [x.1.dc,.one (i64 x.2)]
theorem fFind_fn (l:List Pt) (id:Int):FnOK Tryz.prog 34 [fld l,.one (i64 id)] (retPt (findV l id)):=by
 refine fn_ok (by kernel_rfl) ty_ok Tryz.func34 rfl (fun _ _=>Tryz.call34 _ _) rfl ?_
 intro hw
 clear hw
 have H:=fplace_fn l id
 unfold findV
 unfold placeV at H
 by_cases h0:fchk l=0
 ·obtain ⟨k1,k2,k3⟩:=fchk_ok h0
  rw [if_pos h0] at H ⊢
  cases hh:has l id
  ·rw [hh,if_neg (by decide)] at H
   repeat' ((conv=>whnf);first|(with_reducible first|refine br_t ?_|refine br_f ?_|refine za ?_|refine zg ?_)|rw [List.length_map]|refine zp ?_|refine zq ?_|(with_reducible first|refine bc (fun h => ?_) (fun h => ?_)|refine zt ?_|refine zf ?_|refine br_i (fun h => ?_) (fun h => ?_))|refine zg ?_|refine zi ?_|refine zb ?_)
   all_goals conv=>whnf
   all_goals rfl
  ·rw [hh,if_pos rfl] at H
   obtain ⟨hlt,_⟩:=(has_pos k3).1 hh
   have hel:=pts_get hlt
   rw [if_pos rfl,List.getElem?_eq_getElem hlt]
   repeat' ((conv=>whnf);first|(with_reducible first|refine br_t ?_|refine br_f ?_|refine za ?_|refine zg ?_)|rw [List.length_map]|refine zp ?_|refine zq ?_|(with_reducible first|refine bc (fun h => ?_) (fun h => ?_)|refine zt ?_|refine zf ?_|refine br_i (fun h => ?_) (fun h => ?_))|refine zg ?_|refine zi ?_|refine zb ?_)
   all_goals conv=>whnf
   all_goals rfl
 ·rw [if_neg h0] at H ⊢
  generalize fchk l=z at *
  exact zw
end Go.Proofs.YtfkfficabeclcaaGreatDoor

namespace Go.Proofs.YtfkfficabeclcaaGreatDoor
open Go Go.RowKit Go.Sort Sx
abbrev retFl (x:List Pt × Int):DV:=.tup [fld x.1,.one (i64 x.2)]
def changeV (l:List Pt) (p:Pt):List Pt × Int:=if fchk l=0 then (if p.chk=0 then (if has l p.id then (l.set (pos l p.id) p,0) else ([],6)) else ([],8)) else ([],fchk l)
theorem fChange_fn (l:List Pt) (p:Pt):FnOK Tryz.prog 102 [fld l,p.dc] (retFl (changeV l p)):=by
 have H1:=fCheck_fn l
 have H2:=kCheck_fn p.id p.a p.b
 have H3:=fplace_fn l p.id
 unfold placeV at H3
 unfold changeV
 by_cases h1:fchk l=0
 ·obtain ⟨k1,k2,k3⟩:=fchk_ok h1
  rw [if_pos h1] at H3 ⊢
  rw [h1] at H1
  by_cases h2:p.chk=0
  ·rw [if_pos h2]
   unfold Pt.chk at h2
   rw [h2] at H2
   cases hh:has l p.id
   ·rw [hh,if_neg (by decide)] at H3
    refine fn_ok (by kernel_rfl) ty_ok Tryz.func102 rfl (fun _ _=>Tryz.call102 _ _) rfl ?_
    intro hw
    clear hw
    exact zw
   ·rw [hh,if_pos rfl] at H3
    obtain ⟨hlt,_⟩:=(has_pos k3).1 hh
    have hel:=pts_get hlt
    have H4:=clonePt_own (l.map Pt.c) (by simp;omega)
    rw [if_pos rfl]
    have hset:(l.map Pt.c).set ((pos l p.id:Nat):Int).toNat p.c=(l.set (pos l p.id) p).map Pt.c:=by rw [Int.toNat_natCast,List.map_set]
    refine fn_ok (by kernel_rfl) (ty_okK [36] [] [] []) Tryz.func102 rfl (fun _ _=>Tryz.call102 _ _) rfl ?_
    intro hw
    clear hw
    repeat' ((conv=>whnf);first|(with_reducible first|refine br_t ?_|refine br_f ?_|refine za ?_|refine zg ?_|refine zo ?_)|rw [List.length_map]|refine zp ?_|refine zq ?_|(with_reducible first|refine bc (fun h => ?_) (fun h => ?_)|refine zt ?_|refine zf ?_|refine br_i (fun h => ?_) (fun h => ?_))|refine zg ?_|refine zi ?_|refine zb ?_|refine zl ?_)
    all_goals conv=>whnf
    all_goals exact congrArg (fun x=>DV.tup [.agg [.list 3 x],.one (i64 0)]) hset
  ·rw [if_neg h2]
   have h8:cpt p.id p.a p.b=8:=(cpt_08 p.id p.a p.b).resolve_left h2
   rw [h8] at H2
   refine fn_ok (by kernel_rfl) ty_ok Tryz.func102 rfl (fun _ _=>Tryz.call102 _ _) rfl ?_
   intro hw
   clear hw
   exact zw
 ·rw [if_neg h1]
  generalize fchk l=z at *
  refine fn_ok (by kernel_rfl) ty_ok Tryz.func102 rfl (fun _ _=>Tryz.call102 _ _) rfl ?_
  intro hw
  clear hw
  exact zw
def without (l:List Pt) (id:Int):List Pt:=l.filter fun p=>decide (p.id≠id)
def takeV (l:List Pt) (id:Int):List Pt × Int:=if fchk l=0 then (if has l id then (without l id,0) else ([],6)) else ([],fchk l)
end Go.Proofs.YtfkfficabeclcaaGreatDoor

namespace Go.Proofs.YtfkfficabeclcaaGreatDoor
open Go Go.RowKit Go.Sort Sx
def insP (l:List Pt) (p:Pt):List Pt:=l.take (pos l p.id)++p::l.drop (pos l p.id)
def putV (l:List Pt) (p:Pt):List Pt × Int:=if fchk l=0 then (if p.chk=0 then (if has l p.id then ([],14) else if l.length=64 then ([],18) else (insP l p,0)) else ([],8)) else ([],fchk l)
end Go.Proofs.YtfkfficabeclcaaGreatDoor

namespace Go.Proofs.YtfkfficabeclcaaGreatDoor
open Go Go.RowKit Go.Sort Sx
structure Mt where
 n:Int
 d:Int
 i:Int
 j:Int
 deriving DecidableEq,Inhabited
def Mt.c (m:Mt):List D:=[i64 m.n,i64 m.d,i64 m.i,i64 m.j]
abbrev Mt.dc (m:Mt):DC:=.agg [i64 m.n,i64 m.d,i64 m.i,i64 m.j]
abbrev mts (l:List Mt):D:=.list 4 (l.map Mt.c)
theorem mlater_fnd {p q r t:Int} (h1:chk p q=0) (h2:chk r t=0):FnD Tryz.prog 201 (rat2 p q r t) (ret1 (cmpN (p*t) (r*q))):=by
 refine fn_okD (by kernel_rfl) ty_okD rfl Tryz.func201 rfl (fun _ _=>Tryz.call201 _ _) rfl ?_
 intro hw
 clear hw
 have H:=cmp_fnd p q r t
 unfold cmpV bth at H
 rw [if_pos (by rw [h1,if_pos rfl,h2])] at H
 simp only [ret2] at H
 generalize cmpN (p*t) (r*q)=z at *
 repeat' ((conv=>whnf);first|(with_reducible first|refine br_t ?_|refine br_f ?_|refine zd ?_|refine za ?_|refine zg ?_)|refine zp ?_|refine zq ?_|(with_reducible first|refine bc (fun h => ?_) (fun h => ?_)|refine zt ?_|refine zf ?_|refine br_i (fun h => ?_) (fun h => ?_))|refine zg ?_|refine zi ?_|refine zb ?_)
 all_goals conv=>whnf
 all_goals rfl
def orL:List Int→Int
 | []=>0
 | x::l=>if x=0 then orL l else x
theorem orL_drop {l:List Int}:∀ {i:Nat},i≤l.length→(∀ k (h:k<l.length),k<i→l[k]=0)→orL l=orL (l.drop i)
 | 0,_,_=>rfl
 | i+1,hi,h=>by
  rw [orL_drop (i:=i) (by omega) (fun k hk hki=>h k hk (by omega)),List.drop_eq_getElem_cons (show i<l.length by omega),orL,if_pos (h i (by omega) (by omega))]
theorem cmporL_fnd (l:List Int) (hl:l.length≤1000000):FnD Tryz.prog 131 [.one (ints l)] (ret1 (orL l)):=by
 refine fn_okD (by kernel_rfl) ty_okD rfl Tryz.func131 rfl (fun _ _=>Tryz.call131 _ _) rfl ?_
 intro hw
 clear hw
 have hll:(l.map fun i=>[i64 i]).length=l.length:=List.length_map ..
 repeat' ((conv=>whnf);first|(with_reducible first|refine br_t ?_|refine br_f ?_|refine zd ?_|refine za ?_|refine zg ?_)|refine zp ?_|refine zq ?_|(with_reducible first|refine bc (fun h => ?_) (fun h => ?_)|refine zt ?_|refine zf ?_|refine br_i (fun h => ?_) (fun h => ?_))|refine zg ?_|refine zi ?_|refine zb ?_)
 refine loop_J (by kernel_rfl) ty_okD (σ:=Nat) (fun i=>[(8,sV (.int .i64 i))]) (fun _=>[]) (fun i=>i≤l.length∧∀ k (h:k<l.length),k<i→l[k]=0) (fun i=>l.length-i) 0 ⟨Nat.zero_le _,fun k _ h=>absurd h (Nat.not_lt_zero _)⟩ ?_ ?_
 ·(conv=>whnf);exact zent
 rintro i ⟨hi,hI⟩
 rcases Nat.lt_or_ge i l.length with hlt|hge
 ·have hel:=ints_get hlt
  by_cases hc:l[i]=0
  ·repeat' ((conv=>whnf);first|(with_reducible first|refine br_t ?_|refine br_f ?_|refine zd ?_|refine za ?_|refine zg ?_)|refine zp ?_|refine zq ?_|(with_reducible first|refine bc (fun h => ?_) (fun h => ?_)|refine zt ?_|refine zf ?_|refine br_i (fun h => ?_) (fun h => ?_))|refine zg ?_|refine zi ?_|refine zb ?_)
   all_goals conv=>whnf
   refine ⟨i+1,⟨by omega,fun k hk hki => ?_⟩,?_,by omega⟩
   ·rcases Nat.lt_or_ge k i with h|h
    ·exact hI k hk h
    ·have:k=i:=by omega
     subst this;exact hc
   ·(conv=>whnf);exact zent
  ·rw [orL_drop hi hI,List.drop_eq_getElem_cons hlt,orL,if_neg hc]
   repeat' ((conv=>whnf);first|(with_reducible first|refine br_t ?_|refine br_f ?_|refine zd ?_|refine za ?_|refine zg ?_)|refine zp ?_|refine zq ?_|(with_reducible first|refine bc (fun h => ?_) (fun h => ?_)|refine zt ?_|refine zf ?_|refine br_i (fun h => ?_) (fun h => ?_))|refine zg ?_|refine zi ?_|refine zb ?_)
   all_goals conv=>whnf
   all_goals rfl
 ·rw [orL_drop hi hI,List.drop_eq_nil_of_le hge,orL]
  repeat' ((conv=>whnf);first|(with_reducible first|refine br_t ?_|refine br_f ?_|refine zd ?_|refine za ?_|refine zg ?_)|refine zp ?_|refine zq ?_|(with_reducible first|refine bc (fun h => ?_) (fun h => ?_)|refine zt ?_|refine zf ?_|refine br_i (fun h => ?_) (fun h => ?_))|refine zg ?_|refine zi ?_|refine zb ?_)
  all_goals conv=>whnf
  all_goals rfl
def cfM (a b:Mt):Int:=orL [cmpN (a.n*b.d) (b.n*a.d),cmpN a.i b.i,cmpN a.j b.j]
theorem morder_fnd {a b:Mt} (h1:chk a.n a.d=0) (h2:chk b.n b.d=0):FnD Tryz.prog 205 [a.dc,b.dc] (ret1 (cfM a b)):=by
 have H1:=mlater_fnd h1 h2
 have H2:=cmpint_fnd a.i b.i
 have H3:=cmpint_fnd a.j b.j
 unfold cfM
 have H4:=cmporL_fnd [cmpN (a.n*b.d) (b.n*a.d),cmpN a.i b.i,cmpN a.j b.j] (by simp)
 generalize orL [cmpN (a.n*b.d) (b.n*a.d),cmpN a.i b.i,cmpN a.j b.j]=z at *
 generalize cmpN (a.n*b.d) (b.n*a.d)=x at *
 generalize cmpN a.i b.i=y at *
 generalize cmpN a.j b.j=u at *
 change FnD _ _ [.one (.list 1 [[i64 x],[i64 y],[i64 u]])] _ at H4
 refine fn_okD (by kernel_rfl) ty_okD rfl Tryz.func205 rfl (fun _ _=>Tryz.call205 _ _) rfl ?_
 intro hw
 clear hw
 repeat' ((conv=>whnf);first|(with_reducible first|refine br_t ?_|refine br_f ?_|refine zd ?_|refine za ?_|refine zg ?_)|refine zp ?_|refine zq ?_|(with_reducible first|refine bc (fun h => ?_) (fun h => ?_)|refine zt ?_|refine zf ?_|refine br_i (fun h => ?_) (fun h => ?_))|refine zg ?_|refine zi ?_|refine zb ?_)
 all_goals conv=>whnf
 all_goals rfl
end Go.Proofs.YtfkfficabeclcaaGreatDoor

namespace Go.Proofs.YtfkfficabeclcaaGreatDoor
open Go Go.RowKit Go.Sort Sx
def Mt.ok (m:Mt):Prop:=chk m.n m.d=0∧(-9223372036854775808≤m.n∧m.n≤9223372036854775807)∧m.d≤9223372036854775807∧(-9223372036854775808≤m.i∧m.i≤9223372036854775807) ∧ -9223372036854775808≤m.j∧m.j≤9223372036854775807
def mlt (a b:Mt):Prop:=qv a.n a.d<qv b.n b.d∨qv a.n a.d=qv b.n b.d∧(a.i<b.i∨a.i=b.i∧a.j<b.j)
instance (a b:Mt):Decidable (mlt a b):=by unfold mlt;infer_instance
def msrt (l:List Mt):List Mt:=l.mergeSort fun x y => !decide (mlt y x)
theorem qv_ltM {p q r t:Int} (h1:chk p q=0) (h2:chk r t=0):qv p q<qv r t↔p*t<r*q:=by
 have e1:=Rat.lt_iff (qv p q) (qv r t)
 rw [qv_num h1,qv_num h2,qv_den h1,qv_den h2] at e1
 exact e1
theorem lt_cfM {a b:Mt} (h1:a.ok) (h2:b.ok):ltOf cfM a b=decide (mlt a b):=by
 have q1:=qv_ltM h1.1 h2.1
 have q2:=qv_ltM h2.1 h1.1
 unfold ltOf
 rw [decide_eq_decide]
 unfold cfM orL orL orL orL mlt cmpN
 generalize qv a.n a.d=x at *
 generalize qv b.n b.d=y at *
 generalize a.n*b.d=u at *
 generalize b.n*a.d=v at *
 have tri:(u<v∧x<y)∨(v<u∧y<x)∨(u=v∧x=y):=by
  rcases Int.lt_trichotomy u v with h|h|h
  ·exact .inl ⟨h,q1.2 h⟩
  ·refine .inr (.inr ⟨h,?_⟩)
   have k1:¬ x<y:=fun k=>by have:=q1.1 k;omega
   have k2:¬ y<x:=fun k=>by have:=q2.1 k;omega
   exact Rat.le_antisymm (Rat.not_lt.1 k2) (Rat.not_lt.1 k1)
  ·exact .inr (.inl ⟨h,q2.2 h⟩)
 rcases tri with ⟨h,k⟩|⟨h,k⟩|⟨h,k⟩
 ·simp [h,k]
 ·have k1:¬ x<y:=fun e=>by have:=q1.1 e;omega
  have k2:x≠y:=fun e=>by rw [e] at k;exact absurd k Rat.lt_irrefl
  have k3:¬ u<v:=by omega
  simp [h,k1,k2,k3]
 ·subst h k
  simp [Rat.lt_irrefl]
  (repeat' split)<;>omega
theorem mlt_irrefl (a:Mt):¬ mlt a a:=by
 unfold mlt
 simp [Rat.lt_irrefl]
theorem mlt_trans {a b c:Mt} (h1:mlt a b) (h2:mlt b c):mlt a c:=by
 unfold mlt at *
 rcases h1 with h1|⟨e1,h1⟩<;>rcases h2 with h2|⟨e2,h2⟩
 ·exact .inl (Std.lt_trans h1 h2)
 ·exact .inl (by rw [← e2];exact h1)
 ·exact .inl (by rw [e1];exact h2)
 ·exact .inr ⟨e1.trans e2,by omega⟩
theorem mlt_tri (a b:Mt):mlt a b∨mlt b a∨(qv a.n a.d=qv b.n b.d∧a.i=b.i∧a.j=b.j):=by
 unfold mlt
 by_cases h1:qv a.n a.d<qv b.n b.d
 ·exact .inl (.inl h1)
 ·by_cases h2:qv b.n b.d<qv a.n a.d
  ·exact .inr (.inl (.inl h2))
  ·have e:qv a.n a.d=qv b.n b.d:=Rat.le_antisymm (Rat.not_lt.1 h2) (Rat.not_lt.1 h1)
   rw [e]
   simp only [true_and]
   have:=Rat.lt_irrefl (a:=qv b.n b.d)
   simp only [this,false_or]
   omega
theorem mlt_eq {a b:Mt} (h1:chk a.n a.d=0) (h2:chk b.n b.d=0) (k1:¬ mlt a b) (k2:¬ mlt b a):a=b:=by
 rcases mlt_tri a b with h|h|⟨h,hi,hj⟩
 ·exact absurd h k1
 ·exact absurd h k2
 ·obtain ⟨e1,e2⟩:=(qv_inj h1 h2).1 h
  cases a;cases b
  simp_all
theorem sortMt_mu {l:List Mt} (hl:∀ m∈l,m.ok) (hsz:l.length≤1000000):FnMu Tryz.prog 204 4 (l.map Mt.c) [.one (.clo 205 [])] ((msrt l).map Mt.c):=by
 have hnil:∀ (m:Mt),m.ok→FnMu Tryz.prog 204 4 [] [.one (.clo 205 [])] []:=fun m hm=>by
  have:=sort_mu (P:=Tryz.prog) (ρ:=Tryz.sortMt_ren) (α:=Unit) (k:=4) Tryz.sortMt (by decide) Tryz.isAgg31 Tryz.sizeOf31 (fun _=>[.int .i64 0,.int .i64 1,.int .i64 0,.int .i64 0]) (fun _=>rfl) (fun _ v hv=>by simp at hv;rcases hv with rfl|rfl|rfl<;>exact ⟨rfl,WD_v.1 (wd_i64.2 (by omega))⟩) (fun _ _=>0)
   ⟨fun _=>rfl,fun _ _ _ h=>by simp [ltOf] at h,fun _ _ _ _ _=>rfl⟩ (fun _ _ _ _=>rfl) (g:=205) (caps:=[]) (fun _ _=>Tryz.call205 _ _) (fun _ _=>Tryz.call204 _ _)
   (fun _ _=>by
    have:=morder_fnd (a:=⟨0,1,0,0⟩) (b:=⟨0,1,0,0⟩) (by decide) (by decide)
    exact this) [] (by decide)
  simp only [List.map_nil,List.mergeSort_nil] at this
  exact this
 cases l with
 | nil =>
  rw [show msrt []=[] by simp [msrt]]
  exact hnil ⟨0,1,0,0⟩ ⟨by decide,by decide,by decide,by decide,by decide⟩
 | cons y ys =>
  generalize hd:y::ys=l at *
  have:Inhabited {p:Mt // p∈l}:=⟨⟨y,by rw [← hd];exact List.mem_cons_self ..⟩⟩
  have key:=sort_mu (P:=Tryz.prog) (ρ:=Tryz.sortMt_ren) (α:={p:Mt // p∈l}) (k:=4) Tryz.sortMt (by decide) Tryz.isAgg31 Tryz.sizeOf31 (fun p=>[.int .i64 p.1.n,.int .i64 p.1.d,.int .i64 p.1.i,.int .i64 p.1.j]) (fun _=>rfl) (fun p v hv=>by
    obtain ⟨hc,h2,h3,h4,h5⟩:=hl p.1 p.2
    have h6:=((chk_iff _ _).1 hc).1
    simp at hv
    rcases hv with rfl|rfl|rfl|rfl
    all_goals exact ⟨rfl,WD_v.1 (wd_i64.2 (by omega))⟩) (fun p q=>cfM p.1 q.1)
   ⟨fun p => ?_,fun p q r h1 h2 => ?_,fun p q r h1 h2 => ?_⟩ (fun p q h1 h2 => ?_) (g:=205) (caps:=[]) (fun _ _=>Tryz.call205 _ _) (fun _ _=>Tryz.call204 _ _)
   (fun p q=>morder_fnd (hl p.1 p.2).1 (hl q.1 q.2).1) l.attach (by simp;omega)
  ·have e1:(l.attach.map fun p=>([.int .i64 p.1.n,.int .i64 p.1.d,.int .i64 p.1.i,.int .i64 p.1.j]:List Value).map D.v)=l.map Mt.c:=by
    rw [show (fun p:{p:Mt // p∈l}=>([.int .i64 p.1.n,.int .i64 p.1.d,.int .i64 p.1.i,.int .i64 p.1.j]:List Value).map D.v)=Mt.c ∘ Subtype.val from rfl,← List.map_map,List.attach_map_subtype_val]
   have e2:((l.attach.mergeSort fun x y => !(ltOf fun p q:{p:Mt // p∈l}=>cfM p.1 q.1) y x).map fun p=>([.int .i64 p.1.n,.int .i64 p.1.d,.int .i64 p.1.i,.int .i64 p.1.j]:List Value).map D.v)=(msrt l).map Mt.c:=by
    rw [show (fun p:{p:Mt // p∈l}=>([.int .i64 p.1.n,.int .i64 p.1.d,.int .i64 p.1.i,.int .i64 p.1.j]:List Value).map D.v)=Mt.c ∘ Subtype.val from rfl,← List.map_map]
    rw [List.map_mergeSort (s:=fun x y => !decide (mlt y x)) (fun a _ b _=>by
     have:=lt_cfM (hl b.1 b.2) (hl a.1 a.2)
     unfold ltOf at this ⊢
     rw [this]),List.attach_map_subtype_val]
    rfl
   rw [e1,e2] at key
   exact key
  ·exact (lt_cfM (hl p.1 p.2) (hl p.1 p.2)).trans (decide_eq_false (mlt_irrefl _))
  ·have k1:=of_decide_eq_true ((lt_cfM (hl p.1 p.2) (hl q.1 q.2)).symm.trans h1)
   have k2:=of_decide_eq_true ((lt_cfM (hl q.1 q.2) (hl r.1 r.2)).symm.trans h2)
   exact (lt_cfM (hl p.1 p.2) (hl r.1 r.2)).trans (decide_eq_true (mlt_trans k1 k2))
  ·have k1:=of_decide_eq_false ((lt_cfM (hl p.1 p.2) (hl q.1 q.2)).symm.trans h1)
   have k2:=of_decide_eq_false ((lt_cfM (hl q.1 q.2) (hl r.1 r.2)).symm.trans h2)
   refine (lt_cfM (hl p.1 p.2) (hl r.1 r.2)).trans (decide_eq_false fun k3 => ?_)
   rcases mlt_tri q.1 p.1 with h|h|h
   ·exact k2 (mlt_trans h k3)
   ·exact k1 h
   ·exact k2 (by rw [mlt_eq (hl q.1 q.2).1 (hl p.1 p.2).1 (fun h'=>k2 (mlt_trans h' k3)) k1];exact k3)
  ·have k1:=of_decide_eq_false ((lt_cfM (hl p.1 p.2) (hl q.1 q.2)).symm.trans h1)
   have k2:=of_decide_eq_false ((lt_cfM (hl q.1 q.2) (hl p.1 p.2)).symm.trans h2)
   exact Subtype.ext (mlt_eq (hl p.1 p.2).1 (hl q.1 q.2).1 k1 k2)
end Go.Proofs.YtfkfficabeclcaaGreatDoor

namespace Go.Proofs.YtfkfficabeclcaaGreatDoor
open Go Go.RowKit Go.Sort Sx
theorem mts_get {l:List Mt} {i:Nat} (h:i<l.length):(l.map Mt.c)[((i:Nat):Int).toNat]? = some [i64 l[i].n,i64 l[i].d,i64 l[i].i,i64 l[i].j]:=by
 rw [Int.toNat_natCast,List.getElem?_map,List.getElem?_eq_getElem h];rfl
theorem mbehind1_fn (m:Mt) (n e:Int) (h1:chk m.n m.d=0) (h2:chk n e=0):FnOK Tryz.prog 207 [m.dc,rat n e] (ret1 (if n*m.d<m.n*e then 1 else -1)):=by
 have H:=(mlater_fnd h1 h2).ok
 by_cases h:n*m.d<m.n*e
 ·rw [if_pos h]
  have e1:cmpN (m.n*e) (n*m.d)=1:=by unfold cmpN;rw [if_neg (by omega),if_pos h]
  rw [e1] at H
  refine fn_ok (by kernel_rfl) ty_ok Tryz.func207 rfl (fun _ _=>Tryz.call207 _ _) rfl ?_
  intro hw
  clear hw h e1
  exact zw
 ·rw [if_neg h]
  have e1:cmpN (m.n*e) (n*m.d)≤0:=by unfold cmpN;split<;>(try split)<;>omega
  generalize cmpN (m.n*e) (n*m.d)=z at *
  refine fn_ok (by kernel_rfl) ty_ok Tryz.func207 rfl (fun _ _=>Tryz.call207 _ _) rfl ?_
  intro hw
  clear hw h
  exact zw
def bcnt:List Mt→Int→Int→Nat
 | [],_,_=>0
 | m::l,n,e=>if n*m.d<m.n*e then 0 else bcnt l n e+1
theorem bcnt_eq:∀ {l:List Mt} {n e:Int} {i:Nat},i≤l.length→(∀ k (h:k<l.length),k<i→l[k].n*e≤n*l[k].d)→(∀ k (h:k<l.length),i≤k→n*l[k].d<l[k].n*e)→bcnt l n e=i
 | [],n,e,i,hi,_,_=>by simp at hi;simp [bcnt,hi]
 | m::l,n,e,0,hi,h1,h2=>by
  have:=h2 0 (by simp) (Nat.le_refl _)
  simp at this
  rw [bcnt,if_pos this]
 | m::l,n,e,i+1,hi,h1,h2=>by
  have:=h1 0 (by simp) (by omega)
  simp at this
  rw [bcnt,if_neg (by omega),bcnt_eq (by simpa using hi) (fun k h hk=>h1 (k+1) (by simpa using h) (by omega)) (fun k h hk=>h2 (k+1) (by simpa using h) (by omega))]
structure Asc (l:List Mt):Prop where
 ok:∀ i (h:i<l.length),chk l[i].n l[i].d=0
 up:∀ j i (hj:j<l.length) (hij:i<j),qv l[i].n l[i].d≤qv l[j].n l[j].d
theorem bsMt_fn (l:List Mt) (n e:Int) (hs:Asc l) (ht:chk n e=0) (hl:l.length≤1000000):FnOK Tryz.prog 206 [.one (mts l),rat n e,.one (.clo 207 [])] (.tup [.one (i64 (bcnt l n e:Nat)),.one (bol false)]):=by
 refine fn_ok (by kernel_rfl) ty_ok Tryz.func206 rfl (fun _ _=>Tryz.call206 _ _) rfl ?_
 intro hw
 clear hw
 have hln:(l.map Mt.c).length=l.length:=List.length_map ..
 repeat' ((conv=>whnf);first|(with_reducible first|refine br_t ?_|refine br_f ?_|refine za ?_|refine zg ?_)|refine zp ?_|refine zq ?_|(with_reducible first|refine bc (fun h => ?_) (fun h => ?_)|refine zt ?_|refine zf ?_|refine br_i (fun h => ?_) (fun h => ?_))|refine zg ?_|refine zi ?_|refine zb ?_)
 refine loop_J (by kernel_rfl) ty_ok (σ:=Nat × Nat) (fun s=>[(9,sV (.int .i64 s.1)),(10,sV (.int .i64 s.2))]) (fun _=>[])
  (fun s=>s.1≤s.2∧s.2≤l.length∧(∀ k (h:k<l.length),k<s.1→l[k].n*e≤n*l[k].d)∧∀ k (h:k<l.length),s.2≤k→n*l[k].d<l[k].n*e) (fun s=>s.2-s.1) (0,l.length) ⟨by omega,by omega,fun k h hk=>absurd hk (Nat.not_lt_zero _),fun k h hk=>absurd h (by show ¬ k<l.length;exact Nat.not_lt.2 hk)⟩ ?_ ?_
 ·(conv=>whnf);exact zent
 rintro ⟨i,j⟩ ⟨h1,h2,h3,h4⟩
 simp only at h1 h2 h3 h4
 rcases Nat.lt_or_ge i j with hlt|hge
 ·have hm:(i+j) / 2<l.length:=by omega
  have hmid:=mid_eq i j (by omega)
  have hel:=mts_get hm
  have HC:=mbehind1_fn l[(i+j) / 2] n e (hs.ok _ hm) ht
  have q0:=qv_ltM ht (hs.ok _ hm)
  by_cases hc:n*l[(i+j) / 2].d<l[(i+j) / 2].n*e
  ·rw [if_pos hc] at HC
   have hN:∀ k (h:k<l.length),(i+j) / 2≤k→n*l[k].d<l[k].n*e:=fun k h hk=>by
    rcases Nat.lt_or_ge ((i+j) / 2) k with h5|h5
    ·exact (qv_ltM ht (hs.ok k h)).1 (Std.lt_of_lt_of_le (q0.2 hc) (hs.up k _ h h5))
    ·have:k=(i+j) / 2:=by omega
     subst this;exact hc
   clear hc q0
   repeat' ((conv=>whnf);first|(with_reducible first|refine br_t ?_|refine br_f ?_|refine za ?_|refine zg ?_)|rw [hmid]|refine zp ?_|refine zq ?_|(with_reducible first|refine bc (fun h => ?_) (fun h => ?_)|refine zt ?_|refine zf ?_|refine br_i (fun h => ?_) (fun h => ?_))|refine zg ?_|refine zi ?_|refine zb ?_)
   all_goals conv=>whnf
   refine ⟨(i,(i+j) / 2),⟨by show _≤_;omega,by show _≤_;omega,h3,hN⟩,?_,by show _-_<_-_;omega⟩
   (conv=>whnf);exact zent
  ·rw [if_neg hc] at HC
   have hN:∀ k (h:k<l.length),k<(i+j) / 2+1→l[k].n*e≤n*l[k].d:=fun k h hk=>by
    rcases Nat.lt_or_ge k ((i+j) / 2) with h5|h5
    ·have h6:=hs.up _ k hm h5
     have h7:¬ qv n e<qv l[k].n l[k].d:=fun h8=>hc (q0.1 (Std.lt_of_lt_of_le h8 h6))
     rw [qv_ltM ht (hs.ok k h)] at h7;omega
    ·have:k=(i+j) / 2:=by omega
     subst this;omega
   clear hc q0
   repeat' ((conv=>whnf);first|(with_reducible first|refine br_t ?_|refine br_f ?_|refine za ?_|refine zg ?_)|rw [hmid]|refine zp ?_|refine zq ?_|(with_reducible first|refine bc (fun h => ?_) (fun h => ?_)|refine zt ?_|refine zf ?_|refine br_i (fun h => ?_) (fun h => ?_))|refine zg ?_|refine zi ?_|refine zb ?_)
   all_goals conv=>whnf
   refine ⟨((i+j) / 2+1,j),⟨by show _≤_;omega,h2,hN,h4⟩,?_,by show _-_<_-_;omega⟩
   (conv=>whnf);exact zent
 ·have eij:i=j:=by omega
  subst eij
  have hp:=bcnt_eq h2 h3 h4
  rw [hp]
  rcases Nat.lt_or_ge i l.length with hlt|hge2
  ·have hel:=mts_get hlt
   have HC:=mbehind1_fn l[i] n e (hs.ok i hlt) ht
   rw [if_pos (h4 i hlt (Nat.le_refl _))] at HC
   clear h3 h4
   exact zw
  ·clear h3 h4
   exact zw
theorem mbehind_fn (l:List Mt) (n e:Int) (hs:Asc l) (ht:chk n e=0) (hl:l.length≤1000000):FnOK Tryz.prog 157 [.one (mts l),rat n e] (ret1 (bcnt l n e:Nat)):=by
 refine fn_ok (by kernel_rfl) ty_ok Tryz.func157 rfl (fun _ _=>Tryz.call157 _ _) rfl ?_
 intro hw
 clear hw
 have H:=bsMt_fn l n e hs ht hl
 exact zw
end Go.Proofs.YtfkfficabeclcaaGreatDoor

namespace Go.Proofs.YtfkfficabeclcaaGreatDoor
open Go Go.RowKit Go.Sort Sx
def mchk2 (l:List Pt) (n e r t:Int):Int:=if fchk l=0 then (if chk n e=0 then (if chk r t=0 then (if r*e<n*t then 2 else 0) else 8) else 8) else fchk l
theorem mcheck_fn (l:List Pt) (n e r t:Int):FnOK Tryz.prog 155 [fld l,.one (.list 2 [[i64 n,i64 e],[i64 r,i64 t]])] (ret1 (mchk2 l n e r t)):=by
 have H1:=fCheck_fn l
 have H2:=check_fn n e
 have H3:=check_fn r t
 have hel0:([[i64 n,i64 e],[i64 r,i64 t]]:List (List D))[((0:Nat):Int).toNat]? = some [i64 n,i64 e]:=rfl
 have hel1:([[i64 n,i64 e],[i64 r,i64 t]]:List (List D))[((1:Nat):Int).toNat]? = some [i64 r,i64 t]:=rfl
 have hlen:([[i64 n,i64 e],[i64 r,i64 t]]:List (List D)).length=2:=rfl
 unfold mchk2
 by_cases h1:fchk l=0
 ·rw [if_pos h1]
  rw [h1] at H1
  refine fn_ok (by kernel_rfl) ty_ok Tryz.func155 rfl (fun _ _=>Tryz.call155 _ _) rfl ?_
  intro hw
  clear hw
  repeat' ((conv=>whnf);first|(with_reducible first|refine br_t ?_|refine br_f ?_|refine za ?_|refine zg ?_)|refine zp ?_|refine zq ?_|(with_reducible first|refine bc (fun h => ?_) (fun h => ?_)|refine zt ?_|refine zf ?_|refine br_i (fun h => ?_) (fun h => ?_))|refine zg ?_|refine zi ?_|refine zb ?_)
  refine loop_J (by kernel_rfl) ty_ok (σ:=Nat) (fun i=>[(16,sV (.int .i64 i))]) (fun _=>[]) (fun i=>i=0∨(i=1∧chk n e=0)∨(i=2∧chk n e=0∧chk r t=0)) (fun i=>2-i) 0 (.inl rfl) ?_ ?_
  ·(conv=>whnf);exact zent
  intro i hi
  rcases hi with rfl|⟨rfl,h2⟩|⟨rfl,h2,h3⟩
  ·by_cases h2:chk n e=0
   ·rw [h2] at H2
    repeat' ((conv=>whnf);first|(with_reducible first|refine br_t ?_|refine br_f ?_|refine za ?_|refine zg ?_)|refine zp ?_|refine zq ?_|(with_reducible first|refine bc (fun h => ?_) (fun h => ?_)|refine zt ?_|refine zf ?_|refine br_i (fun h => ?_) (fun h => ?_))|refine zg ?_|refine zi ?_|refine zb ?_)
    all_goals conv=>whnf
    refine ⟨1,.inr (.inl ⟨rfl,h2⟩),?_,by show 2-1<2-0;decide⟩
    (conv=>whnf);exact zent
   ·rw [if_neg h2]
    have h8:chk n e=8:=(chk_08 n e).resolve_left h2
    rw [h8] at H2
    exact zw
  ·rw [if_pos h2]
   by_cases h3:chk r t=0
   ·rw [h3] at H3
    repeat' ((conv=>whnf);first|(with_reducible first|refine br_t ?_|refine br_f ?_|refine za ?_|refine zg ?_)|refine zp ?_|refine zq ?_|(with_reducible first|refine bc (fun h => ?_) (fun h => ?_)|refine zt ?_|refine zf ?_|refine br_i (fun h => ?_) (fun h => ?_))|refine zg ?_|refine zi ?_|refine zb ?_)
    all_goals conv=>whnf
    refine ⟨2,.inr (.inr ⟨rfl,h2,h3⟩),?_,by show 2-2<2-1;decide⟩
    (conv=>whnf);exact zent
   ·rw [if_neg h3]
    have h8:chk r t=8:=(chk_08 r t).resolve_left h3
    rw [h8] at H3
    exact zw
  ·rw [if_pos h2,if_pos h3]
   have H4:=(mlater_fnd h2 h3).ok
   by_cases hc:r*e<n*t
   ·rw [if_pos hc]
    have e1:cmpN (n*t) (r*e)=1:=by unfold cmpN;rw [if_neg (by omega),if_pos hc]
    rw [e1] at H4
    clear hc e1
    exact zw
   ·rw [if_neg hc]
    have e1:cmpN (n*t) (r*e)≤0:=by unfold cmpN;split<;>(try split)<;>omega
    generalize cmpN (n*t) (r*e)=z at *
    clear hc
    exact zw
 ·rw [if_neg h1]
  generalize fchk l=z at *
  refine fn_ok (by kernel_rfl) ty_ok Tryz.func155 rfl (fun _ _=>Tryz.call155 _ _) rfl ?_
  intro hw
  clear hw
  exact zw
end Go.Proofs.YtfkfficabeclcaaGreatDoor
