import Derived.Test.YtfkfficabeclcaaGreatDoorChecked
import Derived.Test.YtfkfficabeclcaaGreatDoorGLTNamesAK
import Derived.Shelf.Strings.Builder1
import Derived.Shelf.Strings.Builder2
import Derived.Shelf.Strings.OnBuilder
import Derived.Shelf.Small.Bits
import Derived.Shelf.Strings.BuilderF
import Derived.Shelf.Strings.BuilderK
import Derived.Shelf.Strings.Builder2Cap
import Derived.Shelf.Strconv.Atoi
import Derived.Shelf.Strconv.Itoa0
import Derived.Shelf.Strconv.Itoa1
import Derived.Shelf.LaysM
import Derived.Shelf.Strconv.Itoa2
import Derived.Shelf.Strconv.Itoa3
import Derived.Shelf.Strconv.Itoa4
import Derived.Shelf.Strconv.AtoiErrFast
import Derived.Shelf.Strconv.ParseIntEmpty
import Derived.Shelf.Strconv.AtoiFail
import Derived.Shelf.Strconv.Clone
import Derived.Shelf.Strconv.SyntaxError
import Derived.Shelf.LaysC
import Derived.Shelf.Strconv.ToError
import Derived.Shelf.Strconv.Lower
import Derived.Shelf.Strconv.ParseUint10
import Derived.Shelf.Strconv.ParseUint10Empty
import Derived.Shelf.Strconv.ParseUint10Any
import Derived.Shelf.Strconv.ParseInt10
import Derived.Shelf.Strconv.AtoiLong
import Derived.Shelf.Strconv.AtoiInnerAll
import Derived.Shelf.Strconv.RangeError
import Derived.Shelf.Strconv.ToErrorRange
import Derived.Shelf.Strconv.AtoiAll
import Derived.Shelf.Strconv.ErrVarAll
import Derived.Shelf.Strconv.ParseUintEmpty
import Derived.Shelf.Strconv.ParseUint10b64
import Derived.Shelf.Strconv.ParseUint10b32
import Derived.Shelf.Strconv.ParseUint10b16
import Derived.Shelf.Strconv.ParseUint10b8
import Derived.Shelf.Strconv.ParseUint10At
import Derived.Shelf.Strconv.ParseInt10At64
import Derived.Shelf.Strconv.ParseInt10At32
import Derived.Shelf.Strconv.ParseInt10At16
import Derived.Shelf.Strconv.ParseInt10At8
import Derived.Shelf.Strconv.ParseInt10All
import Derived.Shelf.Strconv.ParseIntPublic10
import Derived.Shelf.Strconv.ErrVarParseInt
import Derived.Shelf.Strings.Search1
import Derived.Shelf.Strings.Search2
import Derived.Shelf.Strings.Search3
import Derived.Shelf.Strings.Cut
import Derived.Shelf.Strings.Count
import Derived.Shelf.Strings.Shaped
import Derived.Shelf.Strings.Prefix
import Derived.Shelf.Strings.Split
import Derived.Shelf.Strings.SplitShaped
import Derived.Shelf.Bits.Mul64
import Derived.Shelf.Unicode.DecodeSlow
import Derived.Shelf.Strings.BuilderCap
import Derived.Test.YtfkfficabeclcaaGreatDoorProg
import Derived.Laws.Externs
import Derived.Shelf.Spec.BitsCarry
set_option linter.all false
namespace Go.Proofs.YtfkfficabeclcaaGreatDoor
open Go.RowKit Go.Sort
theorem gcd_any (a b:Nat) (w:World) :
  Calls Tryz.prog 80 #[.int .u64 a,.int .u64 b] w fun e w'=>e=.returned (.int .u64 (Nat.gcd a b:Nat))∧Below w.heap.size w w':=by
 go_enter Tryz.func80,Tryz.ntmps80
 go_wp2
 go_loopw [0,1] (fun x y wr=>∃ n m:Nat,x=.int .u64 n∧y=.int .u64 m∧Hid (Nat.gcd n m=Nat.gcd a b)∧Below w.heap.size w wr) (fun _ y _=>(intOf y).toNat)
 case atStart=>exact ⟨a,b,rfl,rfl,Lib.hid rfl,Below.refl _ _⟩
 case round =>
  obtain ⟨n,m,rfl,rfl,hg,hb⟩:=hrel
  by_cases h0:0<m
  ·go_wp2
   go_quiet (fail)
   go_wp2
   have hlt:=Nat.mod_lt n h0
   refine ⟨⟨m,n % m,rfl,by simp,Lib.hid ?_,below_drewN hb _⟩,?_⟩
   ·rw [← hg.out,Nat.gcd_comm n m,Nat.gcd_rec m n,Nat.gcd_comm]
   ·show ((n:Int) % (m:Int)).toNat<((m:Int)).toNat
    omega
  ·go_wp2
   go_ret
   refine ⟨ret_int ?_,hb⟩
   rw [← hg.out]
   obtain rfl:m=0:=by omega
   simp
theorem abs_any (n:Int) (w:World) (h0 : -9223372036854775808≤n) (h1:n≤9223372036854775807) :
  Calls Tryz.prog 81 #[.int .i64 n] w fun e w'=>e=.returned (.int .u64 (n.natAbs:Nat))∧Below w.heap.size w w':=by
 have HW:Hid (n<0→IntKind.u64.wrap (-IntKind.u64.wrap n)=(n.natAbs:Nat)):=Lib.hid (by
  intro hn
  rw [IntKind.wrap_u64,IntKind.wrap_u64]
  omega)
 by_cases hn:n<0
 ·go_enter Tryz.func81,Tryz.ntmps81
  go_wp2
  go_ret
  exact ⟨ret_int (HW.out hn),Below.refl _ _⟩
 ·go_enter Tryz.func81,Tryz.ntmps81
  go_wp2
  go_ret
  refine ⟨ret_int ?_,Below.refl _ _⟩
  omega
def chk (n d:Int):Int:=if d<1∨n = -9223372036854775808∨1<Nat.gcd d.toNat n.natAbs then 8 else 0
theorem check_any (n d:Int) (w:World) (h0 : -9223372036854775808≤n) (h1:n≤9223372036854775807) (h2 : -9223372036854775808≤d) (h3:d≤9223372036854775807) :
  Calls Tryz.prog 40 #[.agg #[.int .i64 n,.int .i64 d]] w fun e w'=>e=.returned (.int .i64 (chk n d))∧Below w.heap.size w w':=by
 by_cases hd:d<1
 ·have hch:chk n d=8:=by unfold chk;rw [if_pos (.inl hd)]
  rw [hch]
  go_enter Tryz.func40,Tryz.ntmps40
  go_wp2
  refine wp_region_quiet_below (by kernel_rfl) (by kernel_rfl) ?_
  repeat (go_big_quiet_step (fail))
  refine wpQuiet_nil ?_
  intro _ hw'
  obtain ⟨⟨dq,osq⟩,hw''⟩:=hw'
  subst hw''
  go_wp2
  go_ret
  exact ⟨rfl,below_reg (below_alloc (Below.refl _ _) _) _ _⟩
 ·have hdf:decide (d<1)=false:=by simpa using hd
  by_cases hm:n = -9223372036854775808
  ·have hch:chk n d=8:=by unfold chk;rw [if_pos (.inr (.inl hm))]
   rw [hch]
   have hmb:(n == -9223372036854775808)=true:=by simpa using hm
   clear hm
   go_enter Tryz.func40,Tryz.ntmps40
   go_wp2
   refine wp_region_quiet_below (by kernel_rfl) (by kernel_rfl) ?_
   repeat (go_big_quiet_step (fail))
   refine wpQuiet_nil ?_
   intro _ hw'
   obtain ⟨⟨dq,osq⟩,hw''⟩:=hw'
   subst hw''
   go_wp2
   go_ret
   exact ⟨rfl,below_reg (below_alloc (Below.refl _ _) _) _ _⟩
  ·have hmb:(n == -9223372036854775808)=false:=by simpa using hm
   obtain ⟨e,rfl⟩:=Int.eq_ofNat_of_zero_le (show 0≤d by omega)
   by_cases hg:1<Nat.gcd e n.natAbs
   ·have hch:chk n e=8:=by unfold chk;rw [if_pos (.inr (.inr (by simpa using hg)))]
    rw [hch]
    clear hm
    go_enter Tryz.func40,Tryz.ntmps40
    go_wp2
    refine wp_region_quiet_below (by kernel_rfl) (by kernel_rfl) ?_
    repeat (go_big_quiet_step (first|(go_at_call 81;(with_reducible refine Calls.regrown_of (abs_any _ _ ?_ ?_));omega;omega)|(go_at_call 80;(with_reducible refine Calls.regrown_of (gcd_any _ _ _)))))
    refine wpQuiet_nil ?_
    intro _ hw'
    obtain ⟨⟨dq,osq⟩,hw''⟩:=hw'
    subst hw''
    go_wp2
    go_ret
    exact ⟨rfl,below_reg (below_alloc (Below.refl _ _) _) _ _⟩
   ·have hch:chk n e=0:=by unfold chk;rw [if_neg (by rintro (h|h|h)<;>first|omega|exact hm h|exact hg (by simpa using h))]
    rw [hch]
    clear hm
    go_enter Tryz.func40,Tryz.ntmps40
    go_wp2
    refine wp_region_quiet_below (by kernel_rfl) (by kernel_rfl) ?_
    repeat (go_big_quiet_step (first|(go_at_call 81;(with_reducible refine Calls.regrown_of (abs_any _ _ ?_ ?_));omega;omega)|(go_at_call 80;(with_reducible refine Calls.regrown_of (gcd_any _ _ _)))))
    refine wpQuiet_nil ?_
    intro _ hw'
    obtain ⟨⟨dq,osq⟩,hw''⟩:=hw'
    subst hw''
    go_wp2
    go_ret
    exact ⟨rfl,below_reg (below_alloc (Below.refl _ _) _) _ _⟩
end Go.Proofs.YtfkfficabeclcaaGreatDoor

namespace Go.Proofs
open Go.Shelf
def Tryz.lays156_ren:Go.Shelf.Ren:=⟨fun|156=>51|165=>95|166=>96|169=>97|240=>158|241=>159|276=>208|277=>209|n=>n,fun|31=>63|9=>9|3=>3|4=>4|0=>0|20=>20|72=>159|76=>143|70=>157|37=>45|75=>142|127=>217|164=>266|5=>5|80=>161|n=>n,fun|n=>n⟩
theorem Tryz.lays156:Go.Proofs.Lays.n156 Tryz.prog Tryz.lays156_ren:={
 mixed:=by kernel_rfl
 f156:=Tryz.func51.trans (congrArg some (by kernel_rfl))
 f165:=Tryz.func95.trans (congrArg some (by kernel_rfl))
 f166:=Tryz.func96.trans (congrArg some (by kernel_rfl))
 f169:=Tryz.func97.trans (congrArg some (by kernel_rfl))
 f240:=Tryz.func158.trans (congrArg some (by kernel_rfl))
 f241:=Tryz.func159.trans (congrArg some (by kernel_rfl))
 f276:=Tryz.func208.trans (congrArg some (by kernel_rfl))
 f277:=Tryz.func209.trans (congrArg some (by kernel_rfl))
 t0:=Tryz.underlying0
 a0:=Tryz.isAgg0
 z0:=Tryz.sizeOf0
 v0:=Tryz.zeroValue0
 t3:=Tryz.underlying3
 a3:=Tryz.isAgg3
 z3:=Tryz.sizeOf3
 v3:=Tryz.zeroValue3
 t4:=Tryz.underlying4
 a4:=Tryz.isAgg4
 z4:=Tryz.sizeOf4
 v4:=Tryz.zeroValue4
 t9:=Tryz.underlying9
 a9:=Tryz.isAgg9
 z9:=Tryz.sizeOf9
 v9:=Tryz.zeroValue9
 t20:=Tryz.underlying20
 a20:=Tryz.isAgg20
 z20:=Tryz.sizeOf20
 v20:=Tryz.zeroValue20
 t31:=Tryz.underlying63
 a31:=Tryz.isAgg63
 z31:=Tryz.sizeOf63
 v31:=Tryz.zeroValue63
 t37:=Tryz.underlying45
 a37:=Tryz.isAgg45
 z37:=Tryz.sizeOf45
 v37:=Tryz.zeroValue45
 t70:=Tryz.underlying157
 a70:=Tryz.isAgg157
 z70:=Tryz.sizeOf157
 v70:=Tryz.zeroValue157
 t72:=Tryz.underlying159
 a72:=Tryz.isAgg159
 z72:=Tryz.sizeOf159
 v72:=Tryz.zeroValue159
 t75:=Tryz.underlying142
 a75:=Tryz.isAgg142
 z75:=Tryz.sizeOf142
 v75:=Tryz.zeroValue142
 t76:=Tryz.underlying143
 a76:=Tryz.isAgg143
 z76:=Tryz.sizeOf143
 v76:=Tryz.zeroValue143
 t127:=Tryz.underlying217
 a127:=Tryz.isAgg217
 z127:=Tryz.sizeOf217
 v127:=Tryz.zeroValue217
 t164:=Tryz.underlying266
 a164:=Tryz.isAgg266
 z164:=Tryz.sizeOf266
 v164:=Tryz.zeroValue266 }
theorem Tryz.Builder_Extra_156:Builder.Extra Tryz.prog Tryz.lays156_ren:={
 sizeBuilder:=by kernel_rfl
 liesBuilder:=by kernel_rfl
 t5:=Tryz.underlying5
 a5:=Tryz.isAgg5
 z5:=Tryz.sizeOf5
 v5:=Tryz.zeroValue5
 infoByte:=by kernel_rfl
 cellsByte:=by kernel_rfl
 sizeByte:=by kernel_rfl
 neB5:=by decide }
open Go.RowKit in
theorem Tryz.strings_Join_none (a:Option Addr) (c:Nat) (sep:ByteArray) (w:World) :
  Calls Tryz.prog 51 #[.slice a 0 c,.string sep] w fun e w'=>e=.returned (.string ⟨#[]⟩)∧w'=w:=Any.strings_Join_none Tryz.lays156 Tryz.Builder_Extra_156 a c sep w
open Go.RowKit in
theorem Tryz.strings_Join (bk o c:Nat) (xs:List ByteArray) (sep:ByteArray) (w:World) (hcells:∀ (j:Nat) x,xs[j]? = some x→w.cell? ⟨bk,o+j,none⟩=some (.string x)) (hbk:bk<w.heap.size) (hN:xs.length≤140737488355328) (hcap:xs.length≤c) (hlen:(Lib.join (xs.map (·.data.toList)) sep.data.toList).length≤140737488355328) :
  Calls Tryz.prog 51 #[.slice (some ⟨bk,o,none⟩) xs.length c,.string sep] w fun e w'=>e=.returned (.string ⟨(Lib.join (xs.map (·.data.toList)) sep.data.toList).toArray⟩)∧Below w.heap.size w w':=Any.strings_Join Tryz.lays156 Tryz.Builder_Extra_156 bk o c xs sep w hcells hbk hN hcap hlen
def Tryz.lays134_ren:Go.Shelf.Ren:=⟨fun|134=>128|129=>154|n=>n,fun|53=>121|3=>3|4=>4|46=>152|5=>5|9=>9|n=>n,fun|n=>n⟩
theorem Tryz.lays134:Go.Proofs.Lays.n134 Tryz.prog Tryz.lays134_ren:={
 mixed:=by kernel_rfl
 f129:=Tryz.func154.trans (congrArg some (by kernel_rfl))
 f134:=Tryz.func128.trans (congrArg some (by kernel_rfl))
 t3:=Tryz.underlying3
 a3:=Tryz.isAgg3
 z3:=Tryz.sizeOf3
 v3:=Tryz.zeroValue3
 t4:=Tryz.underlying4
 a4:=Tryz.isAgg4
 z4:=Tryz.sizeOf4
 v4:=Tryz.zeroValue4
 t5:=Tryz.underlying5
 a5:=Tryz.isAgg5
 z5:=Tryz.sizeOf5
 v5:=Tryz.zeroValue5
 t9:=Tryz.underlying9
 a9:=Tryz.isAgg9
 z9:=Tryz.sizeOf9
 v9:=Tryz.zeroValue9
 t46:=Tryz.underlying152
 a46:=Tryz.isAgg152
 z46:=Tryz.sizeOf152
 v46:=Tryz.zeroValue152
 t53:=Tryz.underlying121
 a53:=Tryz.isAgg121
 z53:=Tryz.sizeOf121
 v53:=Tryz.zeroValue121 }
theorem Tryz.bits_LeadingZeros64 (x:Int) (w:World) (h0:0≤x) (h1:x≤18446744073709551615) :
  Calls Tryz.prog 128 #[.int .u64 x] w fun e w'=>e=.returned (.int .i64 (64-(Lib.bitLen x.toNat:Int)))∧w'=w:=Any.bits_LeadingZeros64 Tryz.lays134 x w h0 h1
def Tryz.laysM171_ren:Go.Shelf.Ren:=⟨fun|171=>77|243=>130|246=>129|283=>179|284=>180|285=>181|286=>182|129=>154|317=>222|318=>223|319=>224|320=>225|337=>245|338=>246|n=>n,fun|3=>3|9=>9|2=>2|4=>4|171=>236|0=>0|53=>121|37=>45|5=>5|173=>238|212=>283|51=>212|20=>20|213=>284|46=>152|232=>313|233=>314|n=>n,fun|17=>2|18=>8|19=>9|n=>n⟩
theorem Tryz.laysM171:Go.Proofs.LaysM.n171 Tryz.prog Tryz.laysM171_ren:={
 mixed:=by kernel_rfl
 f129:=Tryz.func154.trans (congrArg some (by kernel_rfl))
 f171:=Tryz.func77.trans (congrArg some (by kernel_rfl))
 f243:=Tryz.func130.trans (congrArg some (by kernel_rfl))
 f246:=Tryz.func129.trans (congrArg some (by kernel_rfl))
 f283:=Tryz.func179.trans (congrArg some (by kernel_rfl))
 f284:=Tryz.func180.trans (congrArg some (by kernel_rfl))
 f285:=Tryz.func181.trans (congrArg some (by kernel_rfl))
 f286:=Tryz.func182.trans (congrArg some (by kernel_rfl))
 f317:=Tryz.func222.trans (congrArg some (by kernel_rfl))
 f318:=Tryz.func223.trans (congrArg some (by kernel_rfl))
 f319:=Tryz.func224.trans (congrArg some (by kernel_rfl))
 f320:=Tryz.func225.trans (congrArg some (by kernel_rfl))
 f337:=Tryz.func245.trans (congrArg some (by kernel_rfl))
 f338:=Tryz.func246.trans (congrArg some (by kernel_rfl))
 t0:=Tryz.underlying0
 a0:=Tryz.isAgg0
 z0:=Tryz.sizeOf0
 v0:=Tryz.zeroValue0
 t2:=Tryz.underlying2
 a2:=Tryz.isAgg2
 z2:=Tryz.sizeOf2
 v2:=Tryz.zeroValue2
 t3:=Tryz.underlying3
 a3:=Tryz.isAgg3
 z3:=Tryz.sizeOf3
 v3:=Tryz.zeroValue3
 t4:=Tryz.underlying4
 a4:=Tryz.isAgg4
 z4:=Tryz.sizeOf4
 v4:=Tryz.zeroValue4
 t5:=Tryz.underlying5
 a5:=Tryz.isAgg5
 z5:=Tryz.sizeOf5
 v5:=Tryz.zeroValue5
 t9:=Tryz.underlying9
 a9:=Tryz.isAgg9
 z9:=Tryz.sizeOf9
 v9:=Tryz.zeroValue9
 t20:=Tryz.underlying20
 a20:=Tryz.isAgg20
 z20:=Tryz.sizeOf20
 v20:=Tryz.zeroValue20
 t37:=Tryz.underlying45
 a37:=Tryz.isAgg45
 z37:=Tryz.sizeOf45
 v37:=Tryz.zeroValue45
 t46:=Tryz.underlying152
 a46:=Tryz.isAgg152
 z46:=Tryz.sizeOf152
 v46:=Tryz.zeroValue152
 t51:=Tryz.underlying212
 a51:=Tryz.isAgg212
 z51:=Tryz.sizeOf212
 v51:=Tryz.zeroValue212
 t53:=Tryz.underlying121
 a53:=Tryz.isAgg121
 z53:=Tryz.sizeOf121
 v53:=Tryz.zeroValue121
 t171:=Tryz.underlying236
 a171:=Tryz.isAgg236
 z171:=Tryz.sizeOf236
 v171:=Tryz.zeroValue236
 t173:=Tryz.underlying238
 a173:=Tryz.isAgg238
 z173:=Tryz.sizeOf238
 v173:=Tryz.zeroValue238
 t212:=Tryz.underlying283
 a212:=Tryz.isAgg283
 z212:=Tryz.sizeOf283
 v212:=Tryz.zeroValue283
 t213:=Tryz.underlying284
 a213:=Tryz.isAgg284
 z213:=Tryz.sizeOf284
 t232:=Tryz.underlying313
 a232:=Tryz.isAgg313
 z232:=Tryz.sizeOf313
 v232:=Tryz.zeroValue313
 t233:=Tryz.underlying314
 a233:=Tryz.isAgg314
 z233:=Tryz.sizeOf314
 v233:=Tryz.zeroValue314
 g17:=by kernel_rfl
 g18:=by kernel_rfl
 g19:=by kernel_rfl
 i0:=by kernel_rfl
 i2:=by kernel_rfl
 i3:=by kernel_rfl
 i4:=by kernel_rfl
 i5:=by kernel_rfl
 i9:=by kernel_rfl
 i20:=by kernel_rfl
 i37:=by kernel_rfl
 i46:=by kernel_rfl
 i51:=by kernel_rfl
 i53:=by kernel_rfl
 i171:=by kernel_rfl
 i173:=by kernel_rfl
 i212:=by kernel_rfl
 i232:=by kernel_rfl
 i233:=by kernel_rfl
 m17:=by kernel_rfl
 m18:=by kernel_rfl
 m19:=by kernel_rfl }
open Go.RowKit Go.Sort Go.Lib in
theorem Tryz.strconv_Itoa (n:Int) (h0 : -9223372036854775808≤n) (h1:n≤9223372036854775807) (w:World) (htab:Lib.TabIs Tryz.prog w "internal/strconv.uint64pow10" .u64 Lib.pow10Tab) :
  Calls Tryz.prog 77 #[.int .i64 n] w fun e w'=>e=.returned (.string ⟨(Lib.itoa n).toArray⟩)∧∃ k os,w'=grow (w.drewN k) os:=Any.strconv_Itoa Tryz.laysM171 n h0 h1 w htab
def Tryz.laysM173_ren:Go.Shelf.Ren:=⟨fun|173=>76|246=>129|283=>179|284=>180|285=>181|286=>182|129=>154|317=>222|318=>223|319=>224|320=>225|337=>245|338=>246|n=>n,fun|2=>2|3=>3|9=>9|4=>4|171=>236|0=>0|53=>121|37=>45|5=>5|173=>238|212=>283|51=>212|20=>20|213=>284|46=>152|232=>313|233=>314|n=>n,fun|17=>2|18=>8|19=>9|n=>n⟩
theorem Tryz.laysM173:Go.Proofs.LaysM.n173 Tryz.prog Tryz.laysM173_ren:={
 mixed:=by kernel_rfl
 f129:=Tryz.func154.trans (congrArg some (by kernel_rfl))
 f173:=Tryz.func76.trans (congrArg some (by kernel_rfl))
 f246:=Tryz.func129.trans (congrArg some (by kernel_rfl))
 f283:=Tryz.func179.trans (congrArg some (by kernel_rfl))
 f284:=Tryz.func180.trans (congrArg some (by kernel_rfl))
 f285:=Tryz.func181.trans (congrArg some (by kernel_rfl))
 f286:=Tryz.func182.trans (congrArg some (by kernel_rfl))
 f317:=Tryz.func222.trans (congrArg some (by kernel_rfl))
 f318:=Tryz.func223.trans (congrArg some (by kernel_rfl))
 f319:=Tryz.func224.trans (congrArg some (by kernel_rfl))
 f320:=Tryz.func225.trans (congrArg some (by kernel_rfl))
 f337:=Tryz.func245.trans (congrArg some (by kernel_rfl))
 f338:=Tryz.func246.trans (congrArg some (by kernel_rfl))
 t0:=Tryz.underlying0
 a0:=Tryz.isAgg0
 z0:=Tryz.sizeOf0
 v0:=Tryz.zeroValue0
 t2:=Tryz.underlying2
 a2:=Tryz.isAgg2
 z2:=Tryz.sizeOf2
 v2:=Tryz.zeroValue2
 t3:=Tryz.underlying3
 a3:=Tryz.isAgg3
 z3:=Tryz.sizeOf3
 v3:=Tryz.zeroValue3
 t4:=Tryz.underlying4
 a4:=Tryz.isAgg4
 z4:=Tryz.sizeOf4
 v4:=Tryz.zeroValue4
 t5:=Tryz.underlying5
 a5:=Tryz.isAgg5
 z5:=Tryz.sizeOf5
 v5:=Tryz.zeroValue5
 t9:=Tryz.underlying9
 a9:=Tryz.isAgg9
 z9:=Tryz.sizeOf9
 v9:=Tryz.zeroValue9
 t20:=Tryz.underlying20
 a20:=Tryz.isAgg20
 z20:=Tryz.sizeOf20
 v20:=Tryz.zeroValue20
 t37:=Tryz.underlying45
 a37:=Tryz.isAgg45
 z37:=Tryz.sizeOf45
 v37:=Tryz.zeroValue45
 t46:=Tryz.underlying152
 a46:=Tryz.isAgg152
 z46:=Tryz.sizeOf152
 v46:=Tryz.zeroValue152
 t51:=Tryz.underlying212
 a51:=Tryz.isAgg212
 z51:=Tryz.sizeOf212
 v51:=Tryz.zeroValue212
 t53:=Tryz.underlying121
 a53:=Tryz.isAgg121
 z53:=Tryz.sizeOf121
 v53:=Tryz.zeroValue121
 t171:=Tryz.underlying236
 a171:=Tryz.isAgg236
 z171:=Tryz.sizeOf236
 v171:=Tryz.zeroValue236
 t173:=Tryz.underlying238
 a173:=Tryz.isAgg238
 z173:=Tryz.sizeOf238
 v173:=Tryz.zeroValue238
 t212:=Tryz.underlying283
 a212:=Tryz.isAgg283
 z212:=Tryz.sizeOf283
 v212:=Tryz.zeroValue283
 t213:=Tryz.underlying284
 a213:=Tryz.isAgg284
 z213:=Tryz.sizeOf284
 t232:=Tryz.underlying313
 a232:=Tryz.isAgg313
 z232:=Tryz.sizeOf313
 v232:=Tryz.zeroValue313
 t233:=Tryz.underlying314
 a233:=Tryz.isAgg314
 z233:=Tryz.sizeOf314
 v233:=Tryz.zeroValue314
 g17:=by kernel_rfl
 g18:=by kernel_rfl
 g19:=by kernel_rfl
 i0:=by kernel_rfl
 i2:=by kernel_rfl
 i3:=by kernel_rfl
 i4:=by kernel_rfl
 i5:=by kernel_rfl
 i9:=by kernel_rfl
 i20:=by kernel_rfl
 i37:=by kernel_rfl
 i46:=by kernel_rfl
 i51:=by kernel_rfl
 i53:=by kernel_rfl
 i171:=by kernel_rfl
 i173:=by kernel_rfl
 i212:=by kernel_rfl
 i232:=by kernel_rfl
 i233:=by kernel_rfl
 m17:=by kernel_rfl
 m18:=by kernel_rfl
 m19:=by kernel_rfl }
open Go.RowKit Go.Sort Go.Lib in
theorem Tryz.strconv_FormatInt_10 (n:Int) (h0 : -9223372036854775808≤n) (h1:n≤9223372036854775807) (w:World) (htab:Lib.TabIs Tryz.prog w "internal/strconv.uint64pow10" .u64 Lib.pow10Tab) :
  Calls Tryz.prog 76 #[.int .i64 n,.int .i64 10] w fun e w'=>e=.returned (.string ⟨(Lib.itoa n).toArray⟩)∧∃ k os,w'=grow (w.drewN k) os:=Any.strconv_FormatInt_10 Tryz.laysM173 n h0 h1 w htab
def Tryz.laysC172_ren:Go.Shelf.Ren:=⟨fun|172=>85|244=>136|245=>137|247=>138|279=>187|280=>188|281=>189|282=>190|287=>191|316=>231|171=>77|205=>232|321=>233|322=>234|243=>130|246=>129|283=>179|284=>180|285=>181|286=>182|129=>154|317=>222|318=>223|319=>224|320=>225|337=>245|338=>246|n=>n,fun|9=>9|3=>3|75=>142|76=>143|4=>4|5=>5|167=>244|37=>45|0=>0|85=>146|2=>2|168=>245|53=>121|175=>248|46=>152|210=>287|127=>217|145=>306|143=>304|21=>21|171=>236|173=>238|212=>283|51=>212|20=>20|213=>284|232=>313|233=>314|80=>161|n=>n,fun|15=>4|16=>5|17=>2|18=>8|19=>9|n=>n⟩
theorem Tryz.laysC172:Go.Proofs.LaysC.n172 Tryz.prog Tryz.laysC172_ren:={
 mixed:=by kernel_rfl
 f129:=Tryz.func154.trans (congrArg some (by kernel_rfl))
 f171:=Tryz.func77.trans (congrArg some (by kernel_rfl))
 f172:=Tryz.func85.trans (congrArg some (by kernel_rfl))
 f205:=Tryz.func232.trans (congrArg some (by kernel_rfl))
 f243:=Tryz.func130.trans (congrArg some (by kernel_rfl))
 f244:=Tryz.func136.trans (congrArg some (by kernel_rfl))
 f245:=Tryz.func137.trans (congrArg some (by kernel_rfl))
 f246:=Tryz.func129.trans (congrArg some (by kernel_rfl))
 f247:=Tryz.func138.trans (congrArg some (by kernel_rfl))
 f279:=Tryz.func187.trans (congrArg some (by kernel_rfl))
 f280:=Tryz.func188.trans (congrArg some (by kernel_rfl))
 f281:=Tryz.func189.trans (congrArg some (by kernel_rfl))
 f282:=Tryz.func190.trans (congrArg some (by kernel_rfl))
 f283:=Tryz.func179.trans (congrArg some (by kernel_rfl))
 f284:=Tryz.func180.trans (congrArg some (by kernel_rfl))
 f285:=Tryz.func181.trans (congrArg some (by kernel_rfl))
 f286:=Tryz.func182.trans (congrArg some (by kernel_rfl))
 f287:=Tryz.func191.trans (congrArg some (by kernel_rfl))
 f316:=Tryz.func231.trans (congrArg some (by kernel_rfl))
 f317:=Tryz.func222.trans (congrArg some (by kernel_rfl))
 f318:=Tryz.func223.trans (congrArg some (by kernel_rfl))
 f319:=Tryz.func224.trans (congrArg some (by kernel_rfl))
 f320:=Tryz.func225.trans (congrArg some (by kernel_rfl))
 f321:=Tryz.func233.trans (congrArg some (by kernel_rfl))
 f322:=Tryz.func234.trans (congrArg some (by kernel_rfl))
 f337:=Tryz.func245.trans (congrArg some (by kernel_rfl))
 f338:=Tryz.func246.trans (congrArg some (by kernel_rfl))
 t0:=Tryz.underlying0
 a0:=Tryz.isAgg0
 z0:=Tryz.sizeOf0
 v0:=Tryz.zeroValue0
 t2:=Tryz.underlying2
 a2:=Tryz.isAgg2
 z2:=Tryz.sizeOf2
 v2:=Tryz.zeroValue2
 t3:=Tryz.underlying3
 a3:=Tryz.isAgg3
 z3:=Tryz.sizeOf3
 v3:=Tryz.zeroValue3
 t4:=Tryz.underlying4
 a4:=Tryz.isAgg4
 z4:=Tryz.sizeOf4
 v4:=Tryz.zeroValue4
 t5:=Tryz.underlying5
 a5:=Tryz.isAgg5
 z5:=Tryz.sizeOf5
 v5:=Tryz.zeroValue5
 t9:=Tryz.underlying9
 a9:=Tryz.isAgg9
 z9:=Tryz.sizeOf9
 v9:=Tryz.zeroValue9
 t20:=Tryz.underlying20
 a20:=Tryz.isAgg20
 z20:=Tryz.sizeOf20
 v20:=Tryz.zeroValue20
 t21:=Tryz.underlying21
 a21:=Tryz.isAgg21
 z21:=Tryz.sizeOf21
 v21:=Tryz.zeroValue21
 t37:=Tryz.underlying45
 a37:=Tryz.isAgg45
 z37:=Tryz.sizeOf45
 v37:=Tryz.zeroValue45
 t46:=Tryz.underlying152
 a46:=Tryz.isAgg152
 z46:=Tryz.sizeOf152
 v46:=Tryz.zeroValue152
 t51:=Tryz.underlying212
 a51:=Tryz.isAgg212
 z51:=Tryz.sizeOf212
 v51:=Tryz.zeroValue212
 t53:=Tryz.underlying121
 a53:=Tryz.isAgg121
 z53:=Tryz.sizeOf121
 v53:=Tryz.zeroValue121
 t75:=Tryz.underlying142
 a75:=Tryz.isAgg142
 z75:=Tryz.sizeOf142
 v75:=Tryz.zeroValue142
 t76:=Tryz.underlying143
 a76:=Tryz.isAgg143
 z76:=Tryz.sizeOf143
 v76:=Tryz.zeroValue143
 t85:=Tryz.underlying146
 a85:=Tryz.isAgg146
 z85:=Tryz.sizeOf146
 v85:=Tryz.zeroValue146
 t127:=Tryz.underlying217
 a127:=Tryz.isAgg217
 z127:=Tryz.sizeOf217
 v127:=Tryz.zeroValue217
 t143:=Tryz.underlying304
 a143:=Tryz.isAgg304
 z143:=Tryz.sizeOf304
 v143:=Tryz.zeroValue304
 t145:=Tryz.underlying306
 a145:=Tryz.isAgg306
 z145:=Tryz.sizeOf306
 v145:=Tryz.zeroValue306
 t167:=Tryz.underlying244
 a167:=Tryz.isAgg244
 z167:=Tryz.sizeOf244
 v167:=Tryz.zeroValue244
 t168:=Tryz.underlying245
 a168:=Tryz.isAgg245
 z168:=Tryz.sizeOf245
 v168:=Tryz.zeroValue245
 t171:=Tryz.underlying236
 a171:=Tryz.isAgg236
 z171:=Tryz.sizeOf236
 v171:=Tryz.zeroValue236
 t173:=Tryz.underlying238
 a173:=Tryz.isAgg238
 z173:=Tryz.sizeOf238
 v173:=Tryz.zeroValue238
 t175:=Tryz.underlying248
 a175:=Tryz.isAgg248
 z175:=Tryz.sizeOf248
 v175:=Tryz.zeroValue248
 t210:=Tryz.underlying287
 a210:=Tryz.isAgg287
 z210:=Tryz.sizeOf287
 v210:=Tryz.zeroValue287
 t212:=Tryz.underlying283
 a212:=Tryz.isAgg283
 z212:=Tryz.sizeOf283
 v212:=Tryz.zeroValue283
 t213:=Tryz.underlying284
 a213:=Tryz.isAgg284
 z213:=Tryz.sizeOf284
 t232:=Tryz.underlying313
 a232:=Tryz.isAgg313
 z232:=Tryz.sizeOf313
 v232:=Tryz.zeroValue313
 t233:=Tryz.underlying314
 a233:=Tryz.isAgg314
 z233:=Tryz.sizeOf314
 v233:=Tryz.zeroValue314
 g15:=by kernel_rfl
 g16:=by kernel_rfl
 g17:=by kernel_rfl
 g18:=by kernel_rfl
 g19:=by kernel_rfl
 t80:=Tryz.underlying161
 a80:=Tryz.isAgg161
 z80:=Tryz.sizeOf161
 v80:=Tryz.zeroValue161
 i0:=by kernel_rfl
 i2:=by kernel_rfl
 i3:=by kernel_rfl
 i4:=by kernel_rfl
 i5:=by kernel_rfl
 i9:=by kernel_rfl
 i20:=by kernel_rfl
 i21:=by kernel_rfl
 i37:=by kernel_rfl
 i46:=by kernel_rfl
 i51:=by kernel_rfl
 i53:=by kernel_rfl
 i75:=by kernel_rfl
 i76:=by kernel_rfl
 i80:=by kernel_rfl
 i85:=by kernel_rfl
 i127:=by kernel_rfl
 i143:=by kernel_rfl
 i145:=by kernel_rfl
 i167:=by kernel_rfl
 i168:=by kernel_rfl
 i171:=by kernel_rfl
 i173:=by kernel_rfl
 i175:=by kernel_rfl
 i210:=by kernel_rfl
 i212:=by kernel_rfl
 i232:=by kernel_rfl
 i233:=by kernel_rfl
 m15:=by kernel_rfl
 m16:=by kernel_rfl
 m17:=by kernel_rfl
 m18:=by kernel_rfl
 m19:=by kernel_rfl
 c0:=by kernel_rfl
 c2:=by kernel_rfl
 c3:=by kernel_rfl
 c4:=by kernel_rfl
 c5:=by kernel_rfl
 c9:=by kernel_rfl
 c20:=by kernel_rfl
 c21:=by kernel_rfl
 c37:=by kernel_rfl
 c46:=by kernel_rfl
 c51:=by kernel_rfl
 c53:=by kernel_rfl
 c75:=by kernel_rfl
 c76:=by kernel_rfl
 c80:=by kernel_rfl
 c85:=by kernel_rfl
 c127:=by kernel_rfl
 c143:=by kernel_rfl
 c145:=by kernel_rfl
 c167:=by kernel_rfl
 c168:=by kernel_rfl
 c171:=by kernel_rfl
 c173:=by kernel_rfl
 c175:=by kernel_rfl
 c210:=by kernel_rfl
 c212:=by kernel_rfl
 c213:=by kernel_rfl
 c232:=by kernel_rfl
 c233:=by kernel_rfl }
open Go.RowKit in
theorem Tryz.strconv_Atoi_ok (s:ByteArray) (hmax:s.size≤9223372036854775806) (v:Int) (h:Lib.atoiAll s.data.toList=.ok v) (w:World) :
  Calls Tryz.prog 85 #[.string s] w fun e w'=>e=.returned (.tuple #[.int .i64 v,.nilIface])∧(w'=w∨∃ t,w'=Lib.bytesWorld w 5 t):=Any.strconv_Atoi_ok Tryz.laysC172 s hmax v h w
open Go.RowKit in
theorem Tryz.strconv_Atoi_syntax_var (s:ByteArray) (hlim:s.size≤281474976710656) (h:Lib.atoiAll s.data.toList=.«syntax») (tp:TypeId) (p:Value) (w:World) (hvar:w.var? Tryz.prog "strconv.ErrSyntax" = some #[.iface tp p]) :
  Calls Tryz.prog 85 #[.string s] w fun e w'=>∃ N,e=.returned (.tuple #[.int .i64 0,.iface 245 (.pointer (some ⟨N,0,none⟩))])∧w.heap.size≤N∧w'.heap[N]? = some (.cells #[.string ⟨#[65,116,111,105]⟩,.string s,.iface tp p] 287 (0,0))∧Below w.heap.size w w':=Any.strconv_Atoi_syntax_var Tryz.laysC172 s hlim h tp p w hvar
open Go.RowKit in
theorem Tryz.strconv_Atoi_range_var (s:ByteArray) (hlim:s.size≤281474976710656) (h:Lib.atoiAll s.data.toList=.range) (tp:TypeId) (p:Value) (w:World) (hvar:w.var? Tryz.prog "strconv.ErrRange" = some #[.iface tp p]) :
  Calls Tryz.prog 85 #[.string s] w fun e w'=>∃ N,e=.returned (.tuple #[.int .i64 (Lib.atoiSat s.data.toList),.iface 245 (.pointer (some ⟨N,0,none⟩))])∧w.heap.size≤N∧w'.heap[N]? = some (.cells #[.string ⟨#[65,116,111,105]⟩,.string s,.iface tp p] 287 (0,0))∧Below w.heap.size w w':=Any.strconv_Atoi_range_var Tryz.laysC172 s hlim h tp p w hvar
def Tryz.laysC174_ren:Go.Shelf.Ren:=⟨fun|174=>86|247=>138|245=>137|287=>191|279=>187|280=>188|281=>189|282=>190|321=>233|322=>234|316=>231|171=>77|205=>232|243=>130|246=>129|283=>179|284=>180|285=>181|286=>182|129=>154|317=>222|318=>223|319=>224|320=>225|337=>245|338=>246|n=>n,fun|9=>9|3=>3|2=>2|75=>142|85=>146|4=>4|167=>244|5=>5|53=>121|175=>248|46=>152|168=>245|37=>45|0=>0|210=>287|21=>21|127=>217|145=>306|143=>304|171=>236|173=>238|212=>283|51=>212|20=>20|213=>284|232=>313|233=>314|80=>161|n=>n,fun|15=>4|16=>5|17=>2|18=>8|19=>9|n=>n⟩
theorem Tryz.laysC174:Go.Proofs.LaysC.n174 Tryz.prog Tryz.laysC174_ren:={
 mixed:=by kernel_rfl
 f129:=Tryz.func154.trans (congrArg some (by kernel_rfl))
 f171:=Tryz.func77.trans (congrArg some (by kernel_rfl))
 f174:=Tryz.func86.trans (congrArg some (by kernel_rfl))
 f205:=Tryz.func232.trans (congrArg some (by kernel_rfl))
 f243:=Tryz.func130.trans (congrArg some (by kernel_rfl))
 f245:=Tryz.func137.trans (congrArg some (by kernel_rfl))
 f246:=Tryz.func129.trans (congrArg some (by kernel_rfl))
 f247:=Tryz.func138.trans (congrArg some (by kernel_rfl))
 f279:=Tryz.func187.trans (congrArg some (by kernel_rfl))
 f280:=Tryz.func188.trans (congrArg some (by kernel_rfl))
 f281:=Tryz.func189.trans (congrArg some (by kernel_rfl))
 f282:=Tryz.func190.trans (congrArg some (by kernel_rfl))
 f283:=Tryz.func179.trans (congrArg some (by kernel_rfl))
 f284:=Tryz.func180.trans (congrArg some (by kernel_rfl))
 f285:=Tryz.func181.trans (congrArg some (by kernel_rfl))
 f286:=Tryz.func182.trans (congrArg some (by kernel_rfl))
 f287:=Tryz.func191.trans (congrArg some (by kernel_rfl))
 f316:=Tryz.func231.trans (congrArg some (by kernel_rfl))
 f317:=Tryz.func222.trans (congrArg some (by kernel_rfl))
 f318:=Tryz.func223.trans (congrArg some (by kernel_rfl))
 f319:=Tryz.func224.trans (congrArg some (by kernel_rfl))
 f320:=Tryz.func225.trans (congrArg some (by kernel_rfl))
 f321:=Tryz.func233.trans (congrArg some (by kernel_rfl))
 f322:=Tryz.func234.trans (congrArg some (by kernel_rfl))
 f337:=Tryz.func245.trans (congrArg some (by kernel_rfl))
 f338:=Tryz.func246.trans (congrArg some (by kernel_rfl))
 t0:=Tryz.underlying0
 a0:=Tryz.isAgg0
 z0:=Tryz.sizeOf0
 v0:=Tryz.zeroValue0
 t2:=Tryz.underlying2
 a2:=Tryz.isAgg2
 z2:=Tryz.sizeOf2
 v2:=Tryz.zeroValue2
 t3:=Tryz.underlying3
 a3:=Tryz.isAgg3
 z3:=Tryz.sizeOf3
 v3:=Tryz.zeroValue3
 t4:=Tryz.underlying4
 a4:=Tryz.isAgg4
 z4:=Tryz.sizeOf4
 v4:=Tryz.zeroValue4
 t5:=Tryz.underlying5
 a5:=Tryz.isAgg5
 z5:=Tryz.sizeOf5
 v5:=Tryz.zeroValue5
 t9:=Tryz.underlying9
 a9:=Tryz.isAgg9
 z9:=Tryz.sizeOf9
 v9:=Tryz.zeroValue9
 t20:=Tryz.underlying20
 a20:=Tryz.isAgg20
 z20:=Tryz.sizeOf20
 v20:=Tryz.zeroValue20
 t21:=Tryz.underlying21
 a21:=Tryz.isAgg21
 z21:=Tryz.sizeOf21
 v21:=Tryz.zeroValue21
 t37:=Tryz.underlying45
 a37:=Tryz.isAgg45
 z37:=Tryz.sizeOf45
 v37:=Tryz.zeroValue45
 t46:=Tryz.underlying152
 a46:=Tryz.isAgg152
 z46:=Tryz.sizeOf152
 v46:=Tryz.zeroValue152
 t51:=Tryz.underlying212
 a51:=Tryz.isAgg212
 z51:=Tryz.sizeOf212
 v51:=Tryz.zeroValue212
 t53:=Tryz.underlying121
 a53:=Tryz.isAgg121
 z53:=Tryz.sizeOf121
 v53:=Tryz.zeroValue121
 t75:=Tryz.underlying142
 a75:=Tryz.isAgg142
 z75:=Tryz.sizeOf142
 v75:=Tryz.zeroValue142
 t85:=Tryz.underlying146
 a85:=Tryz.isAgg146
 z85:=Tryz.sizeOf146
 v85:=Tryz.zeroValue146
 t127:=Tryz.underlying217
 a127:=Tryz.isAgg217
 z127:=Tryz.sizeOf217
 v127:=Tryz.zeroValue217
 t143:=Tryz.underlying304
 a143:=Tryz.isAgg304
 z143:=Tryz.sizeOf304
 v143:=Tryz.zeroValue304
 t145:=Tryz.underlying306
 a145:=Tryz.isAgg306
 z145:=Tryz.sizeOf306
 v145:=Tryz.zeroValue306
 t167:=Tryz.underlying244
 a167:=Tryz.isAgg244
 z167:=Tryz.sizeOf244
 v167:=Tryz.zeroValue244
 t168:=Tryz.underlying245
 a168:=Tryz.isAgg245
 z168:=Tryz.sizeOf245
 v168:=Tryz.zeroValue245
 t171:=Tryz.underlying236
 a171:=Tryz.isAgg236
 z171:=Tryz.sizeOf236
 v171:=Tryz.zeroValue236
 t173:=Tryz.underlying238
 a173:=Tryz.isAgg238
 z173:=Tryz.sizeOf238
 v173:=Tryz.zeroValue238
 t175:=Tryz.underlying248
 a175:=Tryz.isAgg248
 z175:=Tryz.sizeOf248
 v175:=Tryz.zeroValue248
 t210:=Tryz.underlying287
 a210:=Tryz.isAgg287
 z210:=Tryz.sizeOf287
 v210:=Tryz.zeroValue287
 t212:=Tryz.underlying283
 a212:=Tryz.isAgg283
 z212:=Tryz.sizeOf283
 v212:=Tryz.zeroValue283
 t213:=Tryz.underlying284
 a213:=Tryz.isAgg284
 z213:=Tryz.sizeOf284
 t232:=Tryz.underlying313
 a232:=Tryz.isAgg313
 z232:=Tryz.sizeOf313
 v232:=Tryz.zeroValue313
 t233:=Tryz.underlying314
 a233:=Tryz.isAgg314
 z233:=Tryz.sizeOf314
 v233:=Tryz.zeroValue314
 g15:=by kernel_rfl
 g16:=by kernel_rfl
 g17:=by kernel_rfl
 g18:=by kernel_rfl
 g19:=by kernel_rfl
 t80:=Tryz.underlying161
 a80:=Tryz.isAgg161
 z80:=Tryz.sizeOf161
 v80:=Tryz.zeroValue161
 i0:=by kernel_rfl
 i2:=by kernel_rfl
 i3:=by kernel_rfl
 i4:=by kernel_rfl
 i5:=by kernel_rfl
 i9:=by kernel_rfl
 i20:=by kernel_rfl
 i21:=by kernel_rfl
 i37:=by kernel_rfl
 i46:=by kernel_rfl
 i51:=by kernel_rfl
 i53:=by kernel_rfl
 i75:=by kernel_rfl
 i80:=by kernel_rfl
 i85:=by kernel_rfl
 i127:=by kernel_rfl
 i143:=by kernel_rfl
 i145:=by kernel_rfl
 i167:=by kernel_rfl
 i168:=by kernel_rfl
 i171:=by kernel_rfl
 i173:=by kernel_rfl
 i175:=by kernel_rfl
 i210:=by kernel_rfl
 i212:=by kernel_rfl
 i232:=by kernel_rfl
 i233:=by kernel_rfl
 m15:=by kernel_rfl
 m16:=by kernel_rfl
 m17:=by kernel_rfl
 m18:=by kernel_rfl
 m19:=by kernel_rfl
 c0:=by kernel_rfl
 c2:=by kernel_rfl
 c3:=by kernel_rfl
 c4:=by kernel_rfl
 c5:=by kernel_rfl
 c9:=by kernel_rfl
 c20:=by kernel_rfl
 c21:=by kernel_rfl
 c37:=by kernel_rfl
 c46:=by kernel_rfl
 c51:=by kernel_rfl
 c53:=by kernel_rfl
 c75:=by kernel_rfl
 c80:=by kernel_rfl
 c85:=by kernel_rfl
 c127:=by kernel_rfl
 c143:=by kernel_rfl
 c145:=by kernel_rfl
 c167:=by kernel_rfl
 c168:=by kernel_rfl
 c171:=by kernel_rfl
 c173:=by kernel_rfl
 c175:=by kernel_rfl
 c210:=by kernel_rfl
 c212:=by kernel_rfl
 c213:=by kernel_rfl
 c232:=by kernel_rfl
 c233:=by kernel_rfl }
open Go.RowKit in
theorem Tryz.strconv_ParseInt_10_at64_ok (s:ByteArray) (hmax:s.size≤9223372036854775806) (v:Int) (h:Lib.parseIntB 64 s.data.toList=.ok v) (w:World) :
  Calls Tryz.prog 86 #[.string s,.int .i64 10,.int .i64 64] w fun e w'=>e=.returned (.tuple #[.int .i64 v,.nilIface])∧(w'=w∨∃ t,w'=Lib.bytesWorld w 5 t):=Any.strconv_ParseInt_10_at64_ok Tryz.laysC174 s hmax v h w
open Go.RowKit in
theorem Tryz.strconv_ParseInt_10_at64_syntax_var (s:ByteArray) (hlim:s.size≤281474976710656) (h:Lib.parseIntB 64 s.data.toList=.«syntax») (tp:TypeId) (p:Value) (w:World) (hvar:w.var? Tryz.prog "strconv.ErrSyntax" = some #[.iface tp p]) :
  Calls Tryz.prog 86 #[.string s,.int .i64 10,.int .i64 64] w fun e w'=>∃ N,e=.returned (.tuple #[.int .i64 (0),.iface 245 (.pointer (some ⟨N,0,none⟩))])∧w.heap.size≤N∧w'.heap[N]? = some (.cells #[.string ⟨#[80,97,114,115,101,73,110,116]⟩,.string s,.iface tp p] 287 (0,0))∧Below w.heap.size w w':=Any.strconv_ParseInt_10_at64_syntax_var Tryz.laysC174 s hlim h tp p w hvar
open Go.RowKit in
theorem Tryz.strconv_ParseInt_10_at64_range_var (s:ByteArray) (hlim:s.size≤281474976710656) (h:Lib.parseIntB 64 s.data.toList=.range) (tp:TypeId) (p:Value) (w:World) (hvar:w.var? Tryz.prog "strconv.ErrRange" = some #[.iface tp p]) :
  Calls Tryz.prog 86 #[.string s,.int .i64 10,.int .i64 64] w fun e w'=>∃ N,e=.returned (.tuple #[.int .i64 (Lib.intSat 64 s.data.toList),.iface 245 (.pointer (some ⟨N,0,none⟩))])∧w.heap.size≤N∧w'.heap[N]? = some (.cells #[.string ⟨#[80,97,114,115,101,73,110,116]⟩,.string s,.iface tp p] 287 (0,0))∧Below w.heap.size w w':=Any.strconv_ParseInt_10_at64_range_var Tryz.laysC174 s hlim h tp p w hvar
def Tryz.lays145_ren:Go.Shelf.Ren:=⟨fun|145=>139|220=>192|219=>186|217=>227|225=>228|224=>229|267=>230|266=>247|314=>248|n=>n,fun|9=>9|4=>4|59=>197|3=>3|5=>5|46=>152|146=>302|51=>212|n=>n,fun|1=>3|n=>n⟩
theorem Tryz.lays145:Go.Proofs.Lays.n145 Tryz.prog Tryz.lays145_ren:={
 mixed:=by kernel_rfl
 f145:=Tryz.func139.trans (congrArg some (by kernel_rfl))
 f217:=Tryz.func227.trans (congrArg some (by kernel_rfl))
 f219:=Tryz.func186.trans (congrArg some (by kernel_rfl))
 f220:=Tryz.func192.trans (congrArg some (by kernel_rfl))
 f224:=Tryz.func229.trans (congrArg some (by kernel_rfl))
 f225:=Tryz.func228.trans (congrArg some (by kernel_rfl))
 f266:=Tryz.func247.trans (congrArg some (by kernel_rfl))
 f267:=Tryz.func230.trans (congrArg some (by kernel_rfl))
 f314:=Tryz.func248.trans (congrArg some (by kernel_rfl))
 t3:=Tryz.underlying3
 a3:=Tryz.isAgg3
 z3:=Tryz.sizeOf3
 v3:=Tryz.zeroValue3
 t4:=Tryz.underlying4
 a4:=Tryz.isAgg4
 z4:=Tryz.sizeOf4
 v4:=Tryz.zeroValue4
 t5:=Tryz.underlying5
 a5:=Tryz.isAgg5
 z5:=Tryz.sizeOf5
 v5:=Tryz.zeroValue5
 t9:=Tryz.underlying9
 a9:=Tryz.isAgg9
 z9:=Tryz.sizeOf9
 v9:=Tryz.zeroValue9
 t46:=Tryz.underlying152
 a46:=Tryz.isAgg152
 z46:=Tryz.sizeOf152
 v46:=Tryz.zeroValue152
 t51:=Tryz.underlying212
 a51:=Tryz.isAgg212
 z51:=Tryz.sizeOf212
 v51:=Tryz.zeroValue212
 t59:=Tryz.underlying197
 a59:=Tryz.isAgg197
 z59:=Tryz.sizeOf197
 v59:=Tryz.zeroValue197
 t146:=Tryz.underlying302
 a146:=Tryz.isAgg302
 z146:=Tryz.sizeOf302
 v146:=Tryz.zeroValue302
 g1:=by kernel_rfl }
open Go.RowKit Go.Lib in
theorem Tryz.strings_Cut (s sep:ByteArray) (m:Int) (w:World) (hs:s.size<4294967281) (hm:w.cell? ⟨3,0,none⟩=some (.int .i64 m)) :
  Calls Tryz.prog 139 #[.string s,.string sep] w fun e w'=>e=.returned (.tuple #[.string ⟨(Lib.cut s.data.toList sep.data.toList).1.toArray⟩,.string ⟨(Lib.cut s.data.toList sep.data.toList).2.1.toArray⟩,.bool (Lib.cut s.data.toList sep.data.toList).2.2])∧∃ n,w'=w.drewN n:=Any.strings_Cut Tryz.lays145 s sep m w hs hm
def Tryz.laysM145_ren:Go.Shelf.Ren:=⟨fun|145=>139|220=>192|219=>186|217=>227|225=>228|224=>229|267=>230|266=>247|314=>248|n=>n,fun|9=>9|4=>4|59=>197|3=>3|5=>5|46=>152|146=>302|51=>212|n=>n,fun|1=>3|n=>n⟩
theorem Tryz.laysM145:Go.Proofs.LaysM.n145 Tryz.prog Tryz.laysM145_ren:={
 mixed:=by kernel_rfl
 f145:=Tryz.func139.trans (congrArg some (by kernel_rfl))
 f217:=Tryz.func227.trans (congrArg some (by kernel_rfl))
 f219:=Tryz.func186.trans (congrArg some (by kernel_rfl))
 f220:=Tryz.func192.trans (congrArg some (by kernel_rfl))
 f224:=Tryz.func229.trans (congrArg some (by kernel_rfl))
 f225:=Tryz.func228.trans (congrArg some (by kernel_rfl))
 f266:=Tryz.func247.trans (congrArg some (by kernel_rfl))
 f267:=Tryz.func230.trans (congrArg some (by kernel_rfl))
 f314:=Tryz.func248.trans (congrArg some (by kernel_rfl))
 t3:=Tryz.underlying3
 a3:=Tryz.isAgg3
 z3:=Tryz.sizeOf3
 v3:=Tryz.zeroValue3
 t4:=Tryz.underlying4
 a4:=Tryz.isAgg4
 z4:=Tryz.sizeOf4
 v4:=Tryz.zeroValue4
 t5:=Tryz.underlying5
 a5:=Tryz.isAgg5
 z5:=Tryz.sizeOf5
 v5:=Tryz.zeroValue5
 t9:=Tryz.underlying9
 a9:=Tryz.isAgg9
 z9:=Tryz.sizeOf9
 v9:=Tryz.zeroValue9
 t46:=Tryz.underlying152
 a46:=Tryz.isAgg152
 z46:=Tryz.sizeOf152
 v46:=Tryz.zeroValue152
 t51:=Tryz.underlying212
 a51:=Tryz.isAgg212
 z51:=Tryz.sizeOf212
 v51:=Tryz.zeroValue212
 t59:=Tryz.underlying197
 a59:=Tryz.isAgg197
 z59:=Tryz.sizeOf197
 v59:=Tryz.zeroValue197
 t146:=Tryz.underlying302
 a146:=Tryz.isAgg302
 z146:=Tryz.sizeOf302
 v146:=Tryz.zeroValue302
 g1:=by kernel_rfl
 i3:=by kernel_rfl
 i4:=by kernel_rfl
 i5:=by kernel_rfl
 i9:=by kernel_rfl
 i46:=by kernel_rfl
 i51:=by kernel_rfl
 i59:=by kernel_rfl
 i146:=by kernel_rfl
 m1:=by kernel_rfl
 s1_3:=fun w h=>Go.Proofs.cell_of_shapedOpen_int (zero:=#[.int .i64 0]) (t:=3) h (of_decide_eq_true (by kernel_rfl)) (by kernel_rfl) rfl (by kernel_rfl) (by kernel_rfl) Tryz.underlying3 }
def Tryz.lays99_ren:Go.Shelf.Ren:=⟨fun|99=>193|206=>235|n=>n,fun|9=>9|4=>4|3=>3|n=>n,fun|n=>n⟩
theorem Tryz.lays99:Go.Proofs.Lays.n99 Tryz.prog Tryz.lays99_ren:={
 mixed:=by kernel_rfl
 f99:=Tryz.func193.trans (congrArg some (by kernel_rfl))
 f206:=Tryz.func235.trans (congrArg some (by kernel_rfl))
 t3:=Tryz.underlying3
 a3:=Tryz.isAgg3
 z3:=Tryz.sizeOf3
 v3:=Tryz.zeroValue3
 t4:=Tryz.underlying4
 a4:=Tryz.isAgg4
 z4:=Tryz.sizeOf4
 v4:=Tryz.zeroValue4
 t9:=Tryz.underlying9
 a9:=Tryz.isAgg9
 z9:=Tryz.sizeOf9
 v9:=Tryz.zeroValue9 }
open Go.RowKit Go.Lib in
theorem Tryz.strings_HasPrefix (s p:ByteArray) (w:World) :
  Calls Tryz.prog 193 #[.string s,.string p] w fun e w'=>e=.returned (.bool (Lib.hasPrefix s.data.toList p.data.toList))∧w'=w:=Any.strings_HasPrefix Tryz.lays99 s p w
def Tryz.lays146_ren:Go.Shelf.Ren:=⟨fun|146=>44|221=>84|268=>133|138=>134|143=>135|195=>183|197=>184|218=>185|219=>186|260=>226|217=>227|225=>228|224=>229|267=>230|266=>247|314=>248|n=>n,fun|9=>9|31=>63|3=>3|4=>4|0=>0|105=>241|21=>21|5=>5|46=>152|119=>298|139=>301|138=>300|146=>302|51=>212|n=>n,fun|1=>3|3=>6|4=>7|n=>n⟩
theorem Tryz.lays146:Go.Proofs.Lays.n146 Tryz.prog Tryz.lays146_ren:={
 mixed:=by kernel_rfl
 f138:=Tryz.func134.trans (congrArg some (by kernel_rfl))
 f143:=Tryz.func135.trans (congrArg some (by kernel_rfl))
 f146:=Tryz.func44.trans (congrArg some (by kernel_rfl))
 f195:=Tryz.func183.trans (congrArg some (by kernel_rfl))
 f197:=Tryz.func184.trans (congrArg some (by kernel_rfl))
 f217:=Tryz.func227.trans (congrArg some (by kernel_rfl))
 f218:=Tryz.func185.trans (congrArg some (by kernel_rfl))
 f219:=Tryz.func186.trans (congrArg some (by kernel_rfl))
 f221:=Tryz.func84.trans (congrArg some (by kernel_rfl))
 f224:=Tryz.func229.trans (congrArg some (by kernel_rfl))
 f225:=Tryz.func228.trans (congrArg some (by kernel_rfl))
 f260:=Tryz.func226.trans (congrArg some (by kernel_rfl))
 f266:=Tryz.func247.trans (congrArg some (by kernel_rfl))
 f267:=Tryz.func230.trans (congrArg some (by kernel_rfl))
 f268:=Tryz.func133.trans (congrArg some (by kernel_rfl))
 f314:=Tryz.func248.trans (congrArg some (by kernel_rfl))
 t0:=Tryz.underlying0
 a0:=Tryz.isAgg0
 z0:=Tryz.sizeOf0
 v0:=Tryz.zeroValue0
 t3:=Tryz.underlying3
 a3:=Tryz.isAgg3
 z3:=Tryz.sizeOf3
 v3:=Tryz.zeroValue3
 t4:=Tryz.underlying4
 a4:=Tryz.isAgg4
 z4:=Tryz.sizeOf4
 v4:=Tryz.zeroValue4
 t5:=Tryz.underlying5
 a5:=Tryz.isAgg5
 z5:=Tryz.sizeOf5
 v5:=Tryz.zeroValue5
 t9:=Tryz.underlying9
 a9:=Tryz.isAgg9
 z9:=Tryz.sizeOf9
 v9:=Tryz.zeroValue9
 t21:=Tryz.underlying21
 a21:=Tryz.isAgg21
 z21:=Tryz.sizeOf21
 v21:=Tryz.zeroValue21
 t31:=Tryz.underlying63
 a31:=Tryz.isAgg63
 z31:=Tryz.sizeOf63
 v31:=Tryz.zeroValue63
 t46:=Tryz.underlying152
 a46:=Tryz.isAgg152
 z46:=Tryz.sizeOf152
 v46:=Tryz.zeroValue152
 t51:=Tryz.underlying212
 a51:=Tryz.isAgg212
 z51:=Tryz.sizeOf212
 v51:=Tryz.zeroValue212
 t105:=Tryz.underlying241
 a105:=Tryz.isAgg241
 z105:=Tryz.sizeOf241
 v105:=Tryz.zeroValue241
 t119:=Tryz.underlying298
 a119:=Tryz.isAgg298
 z119:=Tryz.sizeOf298
 t138:=Tryz.underlying300
 a138:=Tryz.isAgg300
 z138:=Tryz.sizeOf300
 v138:=Tryz.zeroValue300
 t139:=Tryz.underlying301
 a139:=Tryz.isAgg301
 z139:=Tryz.sizeOf301
 v139:=Tryz.zeroValue301
 t146:=Tryz.underlying302
 a146:=Tryz.isAgg302
 z146:=Tryz.sizeOf302
 v146:=Tryz.zeroValue302
 g1:=by kernel_rfl
 g3:=by kernel_rfl
 g4:=by kernel_rfl }
open Go.RowKit Go.Lib in
theorem Tryz.strings_Split (s sep:ByteArray) (m:Int) (w:World) (hs:s.size<4294967281) (hm:w.cell? ⟨3,0,none⟩=some (.int .i64 m)) (h1:1≤sep.size) :
  Calls Tryz.prog 44 #[.string s,.string sep] w fun e w' =>
   e=.returned (.slice (some ⟨w.heap.size,0,none⟩) (Lib.countB s sep+1) (Lib.countB s sep+1))∧w'=w.alloc (.cells ((Lib.splitB sep 0 (Lib.countB s sep) s).map Value.string).toArray 9):=Any.strings_Split Tryz.lays146 (by kernel_rfl) s sep m w hs hm h1
def Tryz.lays264_ren:Go.Shelf.Ren:=⟨fun|264=>126|n=>n,fun|53=>121|46=>152|n=>n,fun|n=>n⟩
theorem Tryz.lays264:Go.Proofs.Lays.n264 Tryz.prog Tryz.lays264_ren:={
 mixed:=by kernel_rfl
 f264:=Tryz.func126.trans (congrArg some (by kernel_rfl))
 t46:=Tryz.underlying152
 a46:=Tryz.isAgg152
 z46:=Tryz.sizeOf152
 v46:=Tryz.zeroValue152
 t53:=Tryz.underlying121
 a53:=Tryz.isAgg121
 z53:=Tryz.sizeOf121
 v53:=Tryz.zeroValue121 }
open Go.RowKit Go.Lib in
theorem Tryz.bits_Mul64 (x y:Nat) (hx:x<18446744073709551616) (hy:y<18446744073709551616) (w:World) :
  Calls Tryz.prog 126 #[.int .u64 x,.int .u64 y] w fun e w'=>e=.returned (.tuple #[.int .u64 ((x*y / 18446744073709551616:Nat):Int),.int .u64 ((x*y % 18446744073709551616:Nat):Int)])∧w'=w:=Any.bits_Mul64 Tryz.lays264 x y hx hy w
end Go.Proofs

namespace Go.Proofs.YtfkfficabeclcaaGreatDoor
open Go.RowKit Go.Sort
def askd (n d:Int):Int:=if chk n d≠0 then chk n d else if 1073741824<n.natAbs∨1024<d then 2 else 0
theorem chk_08 (n d:Int):chk n d=0∨chk n d=8:=by unfold chk;split<;>simp
theorem asked_any (n d:Int) (w:World) (h0 : -9223372036854775808≤n) (h1:n≤9223372036854775807) (h2 : -9223372036854775808≤d) (h3:d≤9223372036854775807) :
  Calls Tryz.prog 67 #[.agg #[.int .i64 n,.int .i64 d]] w fun e w'=>e=.returned (.int .i64 (askd n d))∧Below w.heap.size w w':=by
 cases hn:decide ((1073741824:Int)<(n.natAbs:Nat))<;>cases hd:decide (1024<d)
 all_goals
  go_enter Tryz.func67,Tryz.ntmps67
  go_wp2_with (first|(go_at_call 40;(with_reducible refine cmono ?_ (check_any _ _ _ ?_ ?_ ?_ ?_));rotate_left;omega;omega;omega;omega;rintro e w' ⟨rfl,hbc0⟩;obtain ⟨⟨dc0,osc0⟩,rfl⟩:=regrown_of_below hbc0;clear hbc0)|(go_at_call 81;(with_reducible refine cmono ?_ (abs_any _ _ ?_ ?_));rotate_left;omega;omega;rintro e w' ⟨rfl,hbc1⟩;obtain ⟨⟨dc1,osc1⟩,rfl⟩:=regrown_of_below hbc1;clear hbc1)|((with_reducible refine wp_region_quiet_below ?_ ?_ ?_);kernel_rfl;kernel_rfl;(repeat (go_big_quiet_step (first|(go_at_call 40;(with_reducible refine Calls.regrown_of (check_any _ _ _ ?_ ?_ ?_ ?_));omega;omega;omega;omega)|(go_at_call 81;(with_reducible refine Calls.regrown_of (abs_any _ _ ?_ ?_));omega;omega))));refine wpQuiet_nil ?_;intro _ hw';obtain ⟨⟨dq,osq⟩,hw''⟩:=hw';subst hw''))
  all_goals (go_ret;refine ⟨ret_int ?_,(by repeat (first|exact Below.refl _ _|refine below_reg ?_ _ _|refine below_alloc ?_ _|exact below_drewN ?_ _|assumption))⟩)
  all_goals (simp only [bne_iff_ne,bne_eq_false_iff_eq,decide_eq_true_eq,decide_eq_false_iff_not,ne_eq] at *)
  all_goals (unfold askd;(first|rw [if_pos (by omega)]|rw [if_neg (by omega)]))
  all_goals (first|rfl|(rw [if_pos (by omega)];done)|(rw [if_neg (by omega)];done))
def bth (n d m e:Int):Int:=if chk n d=0 then chk m e else 8
theorem both_any (n d m e:Int) (w:World) (h0 : -9223372036854775808≤n) (h1:n≤9223372036854775807) (h2 : -9223372036854775808≤d) (h3:d≤9223372036854775807)
  (k0 : -9223372036854775808≤m) (k1:m≤9223372036854775807) (k2 : -9223372036854775808≤e) (k3:e≤9223372036854775807) :
  Calls Tryz.prog 141 #[.agg #[.int .i64 n,.int .i64 d],.agg #[.int .i64 m,.int .i64 e]] w fun en w'=>en=.returned (.int .i64 (bth n d m e))∧Below w.heap.size w w':=by
 go_enter Tryz.func141,Tryz.ntmps141
 go_wp2_with (first|(go_at_call 40;(with_reducible refine cmono ?_ (check_any _ _ _ ?_ ?_ ?_ ?_));rotate_left;omega;omega;omega;omega;rintro e w' ⟨rfl,hbc0⟩;obtain ⟨⟨dc0,osc0⟩,rfl⟩:=regrown_of_below hbc0;clear hbc0)|((with_reducible refine wp_region_quiet_below ?_ ?_ ?_);kernel_rfl;kernel_rfl;(repeat (go_big_quiet_step (first|(go_at_call 40;(with_reducible refine Calls.regrown_of (check_any _ _ _ ?_ ?_ ?_ ?_));omega;omega;omega;omega))));refine wpQuiet_nil ?_;intro _ hw';obtain ⟨⟨dq,osq⟩,hw''⟩:=hw';subst hw''))
 go_ret
 refine ⟨ret_int ?_,(by repeat (first|exact Below.refl _ _|refine below_reg ?_ _ _|refine below_alloc ?_ _|exact below_drewN ?_ _|assumption))⟩
 unfold bth
 have c1:=chk_08 n d
 have c2:=chk_08 m e
 rcases c1 with c1|c1<;>rcases c2 with c2|c2<;>rw [c1,c2]<;>rfl
def cmpN (a b:Int):Int:=if a<b then -1 else if b<a then 1 else 0
theorem cmpi_any (n m:Int) (w:World) :
  Calls Tryz.prog 162 #[.int .i64 n,.int .i64 m] w fun en w'=>en=.returned (.int .i64 (cmpN n m))∧Below w.heap.size w w':=by
 go_enter Tryz.func162,Tryz.ntmps162
 go_wp2_with (first|go_in|((with_reducible refine wp_region_quiet_below ?_ ?_ ?_);kernel_rfl;kernel_rfl;(repeat (go_big_quiet_step (fail)));refine wpQuiet_nil ?_;intro _ hw';obtain ⟨⟨dq,osq⟩,hw''⟩:=hw';subst hw''))
 all_goals (go_ret;refine ⟨ret_int ?_,(by repeat (first|exact Below.refl _ _|refine below_reg ?_ _ _|refine below_alloc ?_ _|exact below_drewN ?_ _|assumption))⟩)
 all_goals (unfold cmpN;(repeat' split)<;>omega)
theorem cmpu_any (n m:Int) (w:World) :
  Calls Tryz.prog 213 #[.int .u64 n,.int .u64 m] w fun en w'=>en=.returned (.int .i64 (cmpN n m))∧Below w.heap.size w w':=by
 go_enter Tryz.func213,Tryz.ntmps213
 go_wp2_with (first|go_in|((with_reducible refine wp_region_quiet_below ?_ ?_ ?_);kernel_rfl;kernel_rfl;(repeat (go_big_quiet_step (fail)));refine wpQuiet_nil ?_;intro _ hw';obtain ⟨⟨dq,osq⟩,hw''⟩:=hw';subst hw''))
 all_goals (go_ret;refine ⟨ret_int ?_,(by repeat (first|exact Below.refl _ _|refine below_reg ?_ _ _|refine below_alloc ?_ _|exact below_drewN ?_ _|assumption))⟩)
 all_goals (unfold cmpN;(repeat' split)<;>omega)
theorem times_any (a b:Int) (w:World)  (h0 : -9223372036854775808≤a) (h1:a≤9223372036854775807) (h2 : -9223372036854775808≤b) (h3:b≤9223372036854775807) :
  Calls Tryz.prog 143 #[.int .i64 a,.int .i64 b] w fun en w'=>en=.returned (.agg #[.bool (decide (a<0) != decide (b<0)),.int .u64 (a.natAbs*b.natAbs / 18446744073709551616:Nat),.int .u64 (a.natAbs*b.natAbs % 18446744073709551616:Nat)])∧Below w.heap.size w w':=by
 go_enter Tryz.func143,Tryz.ntmps143
 go_wp2_with (first|(go_at_call 126;refine (Tryz.bits_Mul64 _ _ (by omega) (by omega) _).mono ?_;rintro e w' ⟨rfl,rfl⟩)|(go_at_call 81;(with_reducible refine cmono ?_ (abs_any _ _ ?_ ?_));rotate_left;omega;omega;rintro e w' ⟨rfl,hbc0⟩;obtain ⟨⟨dc0,osc0⟩,rfl⟩:=regrown_of_below hbc0;clear hbc0)|((with_reducible refine wp_region_quiet_below ?_ ?_ ?_);kernel_rfl;kernel_rfl;(repeat (go_big_quiet_step (first|(go_at_call 81;(with_reducible refine Calls.regrown_of (abs_any _ _ ?_ ?_));omega;omega))));refine wpQuiet_nil ?_;intro _ hw';obtain ⟨⟨dq,osq⟩,hw''⟩:=hw';subst hw''))
 refine bodyPost_ret (v:=.agg #[.bool (decide (a<0) != decide (b<0)),.int .u64 (a.natAbs*b.natAbs / 18446744073709551616:Nat),.int .u64 (a.natAbs*b.natAbs % 18446744073709551616:Nat)]) (by simp [results,Tryz.results143,go_sem];cases decide (a<0)<;>cases decide (b<0)<;>rfl) rfl ⟨rfl,(by repeat (first|exact Below.refl _ _|refine below_reg ?_ _ _|refine below_alloc ?_ _|exact below_drewN ?_ _|assumption))⟩
theorem cmpN_hi (a b c d:Nat) (hb:b<18446744073709551616) (hd:d<18446744073709551616) :
  cmpN ((a*18446744073709551616+b:Nat):Int) ((c*18446744073709551616+d:Nat):Int)=if cmpN (a:Int) c != 0 then cmpN (a:Int) c else cmpN (b:Int) d:=by
 unfold cmpN
 (repeat' split)<;>first|rfl|omega|(exfalso;simp_all;done)|(exfalso;simp_all;omega)
theorem compare_any (x y:Bool) (a b c d:Nat) (w:World) (hb:b<18446744073709551616) (hd:d<18446744073709551616) :
  Calls Tryz.prog 163 #[.agg #[.bool x,.int .u64 a,.int .u64 b],.agg #[.bool y,.int .u64 c,.int .u64 d]] w fun en w'=>en=.returned (.int .i64 (cmpN ((a*18446744073709551616+b:Nat):Int) ((c*18446744073709551616+d:Nat):Int)))∧Below w.heap.size w w':=by
 go_enter Tryz.func163,Tryz.ntmps163
 go_wp2_with (first|(go_at_call 213;(with_reducible refine cmono ?_ (cmpu_any _ _ _));rotate_left;rintro e w' ⟨rfl,hbc0⟩;obtain ⟨⟨dc0,osc0⟩,rfl⟩:=regrown_of_below hbc0;clear hbc0)|((with_reducible refine wp_region_quiet_below ?_ ?_ ?_);kernel_rfl;kernel_rfl;(repeat (go_big_quiet_step (first|(go_at_call 213;(with_reducible refine Calls.regrown_of (cmpu_any _ _ _))))));refine wpQuiet_nil ?_;intro _ hw';obtain ⟨⟨dq,osq⟩,hw''⟩:=hw';subst hw''))
 all_goals (go_ret;refine ⟨ret_int ?_,(by repeat (first|exact Below.refl _ _|refine below_reg ?_ _ _|refine below_alloc ?_ _|exact below_drewN ?_ _|assumption))⟩)
 all_goals (rw [cmpN_hi a b c d hb hd];simp [*])
end Go.Proofs.YtfkfficabeclcaaGreatDoor

namespace Go.Proofs.YtfkfficabeclcaaGreatDoor
open Go.RowKit Go.Sort
theorem run_Add64 (x y c:Nat) (hc:c≤1) (w:World) :
  (callFunc 127 #[.int .u64 x,.int .u64 y,.int .u64 c]).run Tryz.prog w=.ok (.value (.tuple #[.int .u64 ((x+y+c) % 18446744073709551616:Nat),.int .u64 ((x+y+c) / 18446744073709551616:Nat)])) w:=by
 rw [run_callFunc_extern Tryz.func127 (by kernel_rfl) (by kernel_rfl) (by kernel_rfl) (e:=add64Entry) (by kernel_rfl),run_add64 x y c (by omega) (by omega) (by omega) (by omega)]
 simp only [Result.andThen]
 congr 5<;>omega
theorem run_Sub64 (x y b:Nat) (hb:b≤1) (w:World) :
  (callFunc 73 #[.int .u64 x,.int .u64 y,.int .u64 b]).run Tryz.prog w=.ok (.value (.tuple #[.int .u64 ((x+18446744073709551616-y-b) % 18446744073709551616:Nat),.int .u64 ((if x<y+b then 1 else 0:Nat):Int)])) w:=by
 rw [run_callFunc_extern Tryz.func73 (by kernel_rfl) (by kernel_rfl) (by kernel_rfl) (e:=sub64Entry) (by kernel_rfl),run_sub64 x y b hb]
 rfl
def plusM (x y:Bool) (m n:Nat):Nat:=if x=y then m+n else if m<n then n-m else m-n
def plusS (x y:Bool) (m n:Nat):Bool:=if x=y then x else if m<n then y else x
theorem plus_same (x:Bool) (a b c d:Nat) (w:World) (hb:b<18446744073709551616) (hd:d<18446744073709551616) (ha:a+c<18446744073709551614) :
  Calls Tryz.prog 194 #[.agg #[.bool x,.int .u64 a,.int .u64 b],.agg #[.bool x,.int .u64 c,.int .u64 d]] w fun en w' =>
   en=.returned (.agg #[.bool x,.int .u64 ((a*18446744073709551616+b+(c*18446744073709551616+d)) / 18446744073709551616:Nat),.int .u64 ((a*18446744073709551616+b+(c*18446744073709551616+d)) % 18446744073709551616:Nat)])∧Below w.heap.size w w':=by
 obtain ⟨lo,hlo⟩:∃ lo,lo=(b+d+0) % 18446744073709551616:=⟨_,rfl⟩
 obtain ⟨cy,hcy⟩:∃ cy,cy=(b+d+0) / 18446744073709551616:=⟨_,rfl⟩
 obtain ⟨hi,hhi⟩:∃ hi,hi=(a+c+cy) % 18446744073709551616:=⟨_,rfl⟩
 have E1:∀ w,(callFunc 127 #[.int .u64 b,.int .u64 d,.int .u64 0]).run Tryz.prog w=.ok (.value (.tuple #[.int .u64 lo,.int .u64 cy])) w:=by
  rw [hlo,hcy];exact run_Add64 b d 0 (by omega)
 have E2:∀ w,(callFunc 127 #[.int .u64 a,.int .u64 c,.int .u64 cy]).run Tryz.prog w=.ok (.value (.tuple #[.int .u64 hi,.int .u64 ((a+c+cy) / 18446744073709551616:Nat)])) w:=by
  rw [hhi];exact run_Add64 a c cy (by omega)
 have R1:(a*18446744073709551616+b+(c*18446744073709551616+d)) / 18446744073709551616=hi:=by omega
 have R2:(a*18446744073709551616+b+(c*18446744073709551616+d)) % 18446744073709551616=lo:=by omega
 rw [R1,R2]
 clear R1 R2 hlo hcy hhi
 go_enter Tryz.func194,Tryz.ntmps194
 go_wp2_with (first|((with_reducible refine wp_region_quiet_below ?_ ?_ ?_);kernel_rfl;kernel_rfl;(repeat (go_big_quiet_step (fail)));refine wpQuiet_nil ?_;intro _ hw';obtain ⟨⟨dq,osq⟩,hw''⟩:=hw';subst hw''))
 refine bodyPost_ret (v:=.agg #[.bool x,.int .u64 hi,.int .u64 lo]) (by simp [results,Tryz.results194,go_sem]) rfl ⟨rfl,(by repeat (first|exact Below.refl _ _|refine below_reg ?_ _ _|refine below_alloc ?_ _|exact below_drewN ?_ _|assumption))⟩
theorem plus_other (x:Bool) (a b c d:Nat) (w:World) (hb:b<18446744073709551616) (hd:d<18446744073709551616) (ha:a<18446744073709551616) (hc:c<18446744073709551616)
  (hlt:a*18446744073709551616+b<c*18446744073709551616+d) :
  Calls Tryz.prog 194 #[.agg #[.bool x,.int .u64 a,.int .u64 b],.agg #[.bool (!x),.int .u64 c,.int .u64 d]] w fun en w' =>
   en=.returned (.agg #[.bool (!x),.int .u64 ((c*18446744073709551616+d-(a*18446744073709551616+b)) / 18446744073709551616:Nat),.int .u64 ((c*18446744073709551616+d-(a*18446744073709551616+b)) % 18446744073709551616:Nat)])∧Below w.heap.size w w':=by
 obtain ⟨lo,hlo⟩:∃ lo,lo=(d+18446744073709551616-b-0) % 18446744073709551616:=⟨_,rfl⟩
 obtain ⟨cy,hcy⟩:∃ cy:Nat,cy=if d<b+0 then 1 else 0:=⟨_,rfl⟩
 obtain ⟨hi,hhi⟩:∃ hi,hi=(c+18446744073709551616-a-cy) % 18446744073709551616:=⟨_,rfl⟩
 have hcy1:cy≤1:=by rw [hcy];split<;>omega
 have E1:∀ w,(callFunc 73 #[.int .u64 d,.int .u64 b,.int .u64 0]).run Tryz.prog w=.ok (.value (.tuple #[.int .u64 lo,.int .u64 cy])) w:=by
  rw [hlo,hcy];exact run_Sub64 d b 0 (by omega)
 have E2:∀ w,(callFunc 73 #[.int .u64 c,.int .u64 a,.int .u64 cy]).run Tryz.prog w=.ok (.value (.tuple #[.int .u64 hi,.int .u64 ((if c<a+cy then 1 else 0:Nat):Int)])) w:=by
  rw [hhi];exact run_Sub64 c a cy hcy1
 have R1:(c*18446744073709551616+d-(a*18446744073709551616+b)) / 18446744073709551616=hi:=by rw [hhi,hcy];split<;>omega
 have R2:(c*18446744073709551616+d-(a*18446744073709551616+b)) % 18446744073709551616=lo:=by omega
 have hC:cmpN ((a*18446744073709551616+b:Nat):Int) ((c*18446744073709551616+d:Nat):Int) = -1:=by unfold cmpN;rw [if_pos (by omega)]
 have HP:=compare_any x (!x) a b c d
 rw [hC] at HP
 have HQ:=Lib.hid HP
 rw [R1,R2]
 clear R1 R2 hlo hcy hhi hC HP hlt
 go_enter Tryz.func194,Tryz.ntmps194
 go_wp2_with (first|(go_at_call 163;(with_reducible refine cmono ?_ (HQ.out _ hb hd));rotate_left;rintro e w' ⟨rfl,hb7⟩;obtain ⟨⟨d7,os7⟩,rfl⟩:=regrown_of_below hb7;clear hb7)|((with_reducible refine wp_region_quiet_below ?_ ?_ ?_);kernel_rfl;kernel_rfl;(repeat (go_big_quiet_step (fail)));refine wpQuiet_nil ?_;intro _ hw';obtain ⟨⟨dq,osq⟩,hw''⟩:=hw';subst hw''))
 all_goals refine bodyPost_ret (v:=.agg #[.bool (!x),.int .u64 hi,.int .u64 lo]) (by simp [results,Tryz.results194,go_sem]) rfl ⟨rfl,(by repeat (first|exact Below.refl _ _|refine below_reg ?_ _ _|refine below_alloc ?_ _|exact below_drewN ?_ _|assumption))⟩
theorem plus_more (x:Bool) (a b c d:Nat) (w:World) (hb:b<18446744073709551616) (hd:d<18446744073709551616) (ha:a<18446744073709551616) (hc:c<18446744073709551616)
  (hlt:¬ a*18446744073709551616+b<c*18446744073709551616+d) :
  Calls Tryz.prog 194 #[.agg #[.bool x,.int .u64 a,.int .u64 b],.agg #[.bool (!x),.int .u64 c,.int .u64 d]] w fun en w' =>
   en=.returned (.agg #[.bool x,.int .u64 ((a*18446744073709551616+b-(c*18446744073709551616+d)) / 18446744073709551616:Nat),.int .u64 ((a*18446744073709551616+b-(c*18446744073709551616+d)) % 18446744073709551616:Nat)])∧Below w.heap.size w w':=by
 obtain ⟨lo,hlo⟩:∃ lo,lo=(b+18446744073709551616-d-0) % 18446744073709551616:=⟨_,rfl⟩
 obtain ⟨cy,hcy⟩:∃ cy:Nat,cy=if b<d+0 then 1 else 0:=⟨_,rfl⟩
 obtain ⟨hi,hhi⟩:∃ hi,hi=(a+18446744073709551616-c-cy) % 18446744073709551616:=⟨_,rfl⟩
 have hcy1:cy≤1:=by rw [hcy];split<;>omega
 have E1:∀ w,(callFunc 73 #[.int .u64 b,.int .u64 d,.int .u64 0]).run Tryz.prog w=.ok (.value (.tuple #[.int .u64 lo,.int .u64 cy])) w:=by
  rw [hlo,hcy];exact run_Sub64 b d 0 (by omega)
 have E2:∀ w,(callFunc 73 #[.int .u64 a,.int .u64 c,.int .u64 cy]).run Tryz.prog w=.ok (.value (.tuple #[.int .u64 hi,.int .u64 ((if a<c+cy then 1 else 0:Nat):Int)])) w:=by
  rw [hhi];exact run_Sub64 a c cy hcy1
 have R1:(a*18446744073709551616+b-(c*18446744073709551616+d)) / 18446744073709551616=hi:=by rw [hhi,hcy];split<;>omega
 have R2:(a*18446744073709551616+b-(c*18446744073709551616+d)) % 18446744073709551616=lo:=by omega
 obtain ⟨k,hk⟩:∃ k,k=cmpN ((a*18446744073709551616+b:Nat):Int) ((c*18446744073709551616+d:Nat):Int):=⟨_,rfl⟩
 have hk0:¬ k<0:=by rw [hk];unfold cmpN;(repeat' split)<;>omega
 have HP:=compare_any x (!x) a b c d
 rw [← hk] at HP
 have HQ:=Lib.hid HP
 rw [R1,R2]
 clear R1 R2 hlo hcy hhi hk HP hlt
 go_enter Tryz.func194,Tryz.ntmps194
 go_wp2_with (first|(go_at_call 163;(with_reducible refine cmono ?_ (HQ.out _ hb hd));rotate_left;rintro e w' ⟨rfl,hb7⟩;obtain ⟨⟨d7,os7⟩,rfl⟩:=regrown_of_below hb7;clear hb7)|((with_reducible refine wp_region_quiet_below ?_ ?_ ?_);kernel_rfl;kernel_rfl;(repeat (go_big_quiet_step (fail)));refine wpQuiet_nil ?_;intro _ hw';obtain ⟨⟨dq,osq⟩,hw''⟩:=hw';subst hw''))
 all_goals refine bodyPost_ret (v:=.agg #[.bool x,.int .u64 hi,.int .u64 lo]) (by simp [results,Tryz.results194,go_sem]) rfl ⟨rfl,(by repeat (first|exact Below.refl _ _|refine below_reg ?_ _ _|refine below_alloc ?_ _|exact below_drewN ?_ _|assumption))⟩
theorem plus_any (x y:Bool) (a b c d:Nat) (w:World) (hb:b<18446744073709551616) (hd:d<18446744073709551616) (ha:a<9223372036854775807) (hc:c<9223372036854775807) :
  Calls Tryz.prog 194 #[.agg #[.bool x,.int .u64 a,.int .u64 b],.agg #[.bool y,.int .u64 c,.int .u64 d]] w fun en w' =>
   en=.returned (.agg #[.bool (plusS x y (a*18446744073709551616+b) (c*18446744073709551616+d)),.int .u64 (plusM x y (a*18446744073709551616+b) (c*18446744073709551616+d) / 18446744073709551616:Nat),.int .u64 (plusM x y (a*18446744073709551616+b) (c*18446744073709551616+d) % 18446744073709551616:Nat)])∧Below w.heap.size w w':=by
 by_cases hxy:x=y
 ·subst hxy
  simp only [plusS,plusM,if_true]
  exact plus_same x a b c d w hb hd (by omega)
 ·obtain rfl:y = !x:=by cases x<;>cases y<;>simp_all
  by_cases hlt:a*18446744073709551616+b<c*18446744073709551616+d
  ·simp only [plusS,plusM,hxy,if_false,hlt,if_true]
   exact plus_other x a b c d w hb hd (by omega) (by omega) hlt
  ·simp only [plusS,plusM,hxy,if_false,hlt]
   exact plus_more x a b c d w hb hd (by omega) (by omega) hlt
end Go.Proofs.YtfkfficabeclcaaGreatDoor
