import Derived.Shelf.Strings.Builder1
import Derived.Shelf.Strings.Builder2
import Derived.Shelf.Strings.OnBuilder
import Derived.Shelf.Small.Strs
import Derived.Shelf.Strings.BuilderF
import Derived.Shelf.Strings.BuilderK
import Derived.Shelf.Utf8.RuneCount
import Derived.Shelf.Strings.Builder2Cap
import Derived.Shelf.Strconv.Itoa0
import Derived.Shelf.Strconv.Itoa1
import Derived.Shelf.LaysM
import Derived.Shelf.Strconv.Itoa2
import Derived.Shelf.Strconv.Itoa3
import Derived.Shelf.Strconv.Itoa4
import Derived.Shelf.Strings.Search1
import Derived.Shelf.Strings.Search2
import Derived.Shelf.Strings.Search3
import Derived.Shelf.Strings.Cut
import Derived.Shelf.Strings.Count
import Derived.Shelf.Strings.Shaped
import Derived.Shelf.Strings.Prefix
import Derived.Shelf.Strings.Split
import Derived.Shelf.Strings.SplitShaped
import Derived.Shelf.Unicode.Decode
import Derived.Shelf.Strings.RuneCount
import Derived.Shelf.Strings.Explode
import Derived.Shelf.Unicode.DecodeSlow
import Derived.Shelf.Unicode.DecodeAny
import Derived.Shelf.Strings.BuilderCap
import Derived.Test.YtnalabphiaholaaDoorProg
import Derived.Test.YtnalabphiaholaaDoorGLCNumbersAJ
import Derived.Laws.Externs
import Derived.Shelf.Spec.BitsCarry
import Derived.WalkKit
import Derived.Test.YtnalabphiaholaaDoorChecked
import Derived.Lib.ItoaNum
import Derived.Deep.DeepCutAuto
import Derived.Deep.CutBlock
import Derived.Laws.BitsAllLaws
import Derived.Test.YtnalabphiaholaaDoorGLCNumbersAI
import Derived.Laws.Strings
import Derived.Laws.Concat
import Derived.Lib.Strings
set_option linter.all false
namespace Go.Proofs
open Go.Shelf
def Tryd.lays156_ren : Go.Shelf.Ren := ⟨fun | 156 => 56 | 165 => 79 | 166 => 37 | 169 => 39 | 240 => 66 | 241 => 93 | 276 => 81 | 277 => 106 | n => n, fun | 31 => 66 | 9 => 9 | 3 => 3 | 4 => 4 | 0 => 0 | 20 => 20 | 72 => 76 | 76 => 79 | 70 => 74 | 37 => 62 | 75 => 78 | 127 => 112 | 164 => 121 | 5 => 5 | 80 => 82 | n => n, fun | n => n⟩
theorem Tryd.lays156 : Go.Proofs.Lays.n156 Tryd.prog Tryd.lays156_ren := {
  mixed := by kernel_rfl
  f156 := Tryd.func56.trans (congrArg some (by kernel_rfl))
  f165 := Tryd.func79.trans (congrArg some (by kernel_rfl))
  f166 := Tryd.func37.trans (congrArg some (by kernel_rfl))
  f169 := Tryd.func39.trans (congrArg some (by kernel_rfl))
  f240 := Tryd.func66.trans (congrArg some (by kernel_rfl))
  f241 := Tryd.func93.trans (congrArg some (by kernel_rfl))
  f276 := Tryd.func81.trans (congrArg some (by kernel_rfl))
  f277 := Tryd.func106.trans (congrArg some (by kernel_rfl))
  t0 := Tryd.underlying0
  a0 := Tryd.isAgg0
  z0 := Tryd.sizeOf0
  v0 := Tryd.zeroValue0
  t3 := Tryd.underlying3
  a3 := Tryd.isAgg3
  z3 := Tryd.sizeOf3
  v3 := Tryd.zeroValue3
  t4 := Tryd.underlying4
  a4 := Tryd.isAgg4
  z4 := Tryd.sizeOf4
  v4 := Tryd.zeroValue4
  t9 := Tryd.underlying9
  a9 := Tryd.isAgg9
  z9 := Tryd.sizeOf9
  v9 := Tryd.zeroValue9
  t20 := Tryd.underlying20
  a20 := Tryd.isAgg20
  z20 := Tryd.sizeOf20
  v20 := Tryd.zeroValue20
  t31 := Tryd.underlying66
  a31 := Tryd.isAgg66
  z31 := Tryd.sizeOf66
  v31 := Tryd.zeroValue66
  t37 := Tryd.underlying62
  a37 := Tryd.isAgg62
  z37 := Tryd.sizeOf62
  v37 := Tryd.zeroValue62
  t70 := Tryd.underlying74
  a70 := Tryd.isAgg74
  z70 := Tryd.sizeOf74
  v70 := Tryd.zeroValue74
  t72 := Tryd.underlying76
  a72 := Tryd.isAgg76
  z72 := Tryd.sizeOf76
  v72 := Tryd.zeroValue76
  t75 := Tryd.underlying78
  a75 := Tryd.isAgg78
  z75 := Tryd.sizeOf78
  v75 := Tryd.zeroValue78
  t76 := Tryd.underlying79
  a76 := Tryd.isAgg79
  z76 := Tryd.sizeOf79
  v76 := Tryd.zeroValue79
  t127 := Tryd.underlying112
  a127 := Tryd.isAgg112
  z127 := Tryd.sizeOf112
  v127 := Tryd.zeroValue112
  t164 := Tryd.underlying121
  a164 := Tryd.isAgg121
  z164 := Tryd.sizeOf121
  v164 := Tryd.zeroValue121 }
theorem Tryd.Builder_Extra_156 : Builder.Extra Tryd.prog Tryd.lays156_ren := {
  sizeBuilder := by kernel_rfl
  liesBuilder := by kernel_rfl
  t5 := Tryd.underlying5
  a5 := Tryd.isAgg5
  z5 := Tryd.sizeOf5
  v5 := Tryd.zeroValue5
  infoByte := by kernel_rfl
  cellsByte := by kernel_rfl
  sizeByte := by kernel_rfl
  neB5 := by decide }
open Go.RowKit in
theorem Tryd.strings_Join_none (a : Option Addr) (c : Nat) (sep : ByteArray) (w : World) :
    Calls Tryd.prog 56 #[.slice a 0 c, .string sep] w fun e w' => e = .returned (.string ⟨#[]⟩) ∧ w' = w := Any.strings_Join_none Tryd.lays156 Tryd.Builder_Extra_156 a c sep w
open Go.RowKit in
theorem Tryd.strings_Join (bk o c : Nat) (xs : List ByteArray) (sep : ByteArray) (w : World) (hcells : ∀ (j : Nat) x, xs[j]? = some x → w.cell? ⟨bk, o + j, none⟩ = some (.string x)) (hbk : bk < w.heap.size) (hN : xs.length ≤ 140737488355328) (hcap : xs.length ≤ c) (hlen : (Lib.join (xs.map (·.data.toList)) sep.data.toList).length ≤ 140737488355328) :
    Calls Tryd.prog 56 #[.slice (some ⟨bk, o, none⟩) xs.length c, .string sep] w fun e w' => e = .returned (.string ⟨(Lib.join (xs.map (·.data.toList)) sep.data.toList).toArray⟩) ∧ Below w.heap.size w w' := Any.strings_Join Tryd.lays156 Tryd.Builder_Extra_156 bk o c xs sep w hcells hbk hN hcap hlen
def Tryd.laysM171_ren : Go.Shelf.Ren := ⟨fun | 171 => 54 | 243 => 78 | 246 => 74 | 283 => 87 | 284 => 88 | 285 => 89 | 286 => 90 | 129 => 99 | 317 => 98 | 318 => 100 | 319 => 101 | 320 => 102 | 337 => 108 | 338 => 109 | n => n, fun | 3 => 3 | 9 => 9 | 2 => 2 | 4 => 4 | 171 => 125 | 0 => 0 | 53 => 109 | 37 => 62 | 5 => 5 | 173 => 128 | 212 => 135 | 51 => 136 | 20 => 20 | 213 => 137 | 46 => 139 | 232 => 149 | 233 => 150 | n => n, fun | 17 => 0 | 18 => 4 | 19 => 5 | n => n⟩
theorem Tryd.laysM171 : Go.Proofs.LaysM.n171 Tryd.prog Tryd.laysM171_ren := {
  mixed := by kernel_rfl
  f129 := Tryd.func99.trans (congrArg some (by kernel_rfl))
  f171 := Tryd.func54.trans (congrArg some (by kernel_rfl))
  f243 := Tryd.func78.trans (congrArg some (by kernel_rfl))
  f246 := Tryd.func74.trans (congrArg some (by kernel_rfl))
  f283 := Tryd.func87.trans (congrArg some (by kernel_rfl))
  f284 := Tryd.func88.trans (congrArg some (by kernel_rfl))
  f285 := Tryd.func89.trans (congrArg some (by kernel_rfl))
  f286 := Tryd.func90.trans (congrArg some (by kernel_rfl))
  f317 := Tryd.func98.trans (congrArg some (by kernel_rfl))
  f318 := Tryd.func100.trans (congrArg some (by kernel_rfl))
  f319 := Tryd.func101.trans (congrArg some (by kernel_rfl))
  f320 := Tryd.func102.trans (congrArg some (by kernel_rfl))
  f337 := Tryd.func108.trans (congrArg some (by kernel_rfl))
  f338 := Tryd.func109.trans (congrArg some (by kernel_rfl))
  t0 := Tryd.underlying0
  a0 := Tryd.isAgg0
  z0 := Tryd.sizeOf0
  v0 := Tryd.zeroValue0
  t2 := Tryd.underlying2
  a2 := Tryd.isAgg2
  z2 := Tryd.sizeOf2
  v2 := Tryd.zeroValue2
  t3 := Tryd.underlying3
  a3 := Tryd.isAgg3
  z3 := Tryd.sizeOf3
  v3 := Tryd.zeroValue3
  t4 := Tryd.underlying4
  a4 := Tryd.isAgg4
  z4 := Tryd.sizeOf4
  v4 := Tryd.zeroValue4
  t5 := Tryd.underlying5
  a5 := Tryd.isAgg5
  z5 := Tryd.sizeOf5
  v5 := Tryd.zeroValue5
  t9 := Tryd.underlying9
  a9 := Tryd.isAgg9
  z9 := Tryd.sizeOf9
  v9 := Tryd.zeroValue9
  t20 := Tryd.underlying20
  a20 := Tryd.isAgg20
  z20 := Tryd.sizeOf20
  v20 := Tryd.zeroValue20
  t37 := Tryd.underlying62
  a37 := Tryd.isAgg62
  z37 := Tryd.sizeOf62
  v37 := Tryd.zeroValue62
  t46 := Tryd.underlying139
  a46 := Tryd.isAgg139
  z46 := Tryd.sizeOf139
  v46 := Tryd.zeroValue139
  t51 := Tryd.underlying136
  a51 := Tryd.isAgg136
  z51 := Tryd.sizeOf136
  v51 := Tryd.zeroValue136
  t53 := Tryd.underlying109
  a53 := Tryd.isAgg109
  z53 := Tryd.sizeOf109
  v53 := Tryd.zeroValue109
  t171 := Tryd.underlying125
  a171 := Tryd.isAgg125
  z171 := Tryd.sizeOf125
  v171 := Tryd.zeroValue125
  t173 := Tryd.underlying128
  a173 := Tryd.isAgg128
  z173 := Tryd.sizeOf128
  v173 := Tryd.zeroValue128
  t212 := Tryd.underlying135
  a212 := Tryd.isAgg135
  z212 := Tryd.sizeOf135
  v212 := Tryd.zeroValue135
  t213 := Tryd.underlying137
  a213 := Tryd.isAgg137
  z213 := Tryd.sizeOf137
  t232 := Tryd.underlying149
  a232 := Tryd.isAgg149
  z232 := Tryd.sizeOf149
  v232 := Tryd.zeroValue149
  t233 := Tryd.underlying150
  a233 := Tryd.isAgg150
  z233 := Tryd.sizeOf150
  v233 := Tryd.zeroValue150
  g17 := by kernel_rfl
  g18 := by kernel_rfl
  g19 := by kernel_rfl
  i0 := by kernel_rfl
  i2 := by kernel_rfl
  i3 := by kernel_rfl
  i4 := by kernel_rfl
  i5 := by kernel_rfl
  i9 := by kernel_rfl
  i20 := by kernel_rfl
  i37 := by kernel_rfl
  i46 := by kernel_rfl
  i51 := by kernel_rfl
  i53 := by kernel_rfl
  i171 := by kernel_rfl
  i173 := by kernel_rfl
  i212 := by kernel_rfl
  i232 := by kernel_rfl
  i233 := by kernel_rfl
  m17 := by kernel_rfl
  m18 := by kernel_rfl
  m19 := by kernel_rfl }
open Go.RowKit Go.Sort Go.Lib in
theorem Tryd.strconv_Itoa (n : Int) (h0 : -9223372036854775808 ≤ n) (h1 : n ≤ 9223372036854775807) (w : World) (htab : Lib.TabIs Tryd.prog w "internal/strconv.uint64pow10" .u64 Lib.pow10Tab) :
    Calls Tryd.prog 54 #[.int .i64 n] w fun e w' => e = .returned (.string ⟨(Lib.itoa n).toArray⟩) ∧ ∃ k os, w' = grow (w.drewN k) os := Any.strconv_Itoa Tryd.laysM171 n h0 h1 w htab
def Tryd.laysM173_ren : Go.Shelf.Ren := ⟨fun | 173 => 48 | 246 => 74 | 283 => 87 | 284 => 88 | 285 => 89 | 286 => 90 | 129 => 99 | 317 => 98 | 318 => 100 | 319 => 101 | 320 => 102 | 337 => 108 | 338 => 109 | n => n, fun | 2 => 2 | 3 => 3 | 9 => 9 | 4 => 4 | 171 => 125 | 0 => 0 | 53 => 109 | 37 => 62 | 5 => 5 | 173 => 128 | 212 => 135 | 51 => 136 | 20 => 20 | 213 => 137 | 46 => 139 | 232 => 149 | 233 => 150 | n => n, fun | 17 => 0 | 18 => 4 | 19 => 5 | n => n⟩
theorem Tryd.laysM173 : Go.Proofs.LaysM.n173 Tryd.prog Tryd.laysM173_ren := {
  mixed := by kernel_rfl
  f129 := Tryd.func99.trans (congrArg some (by kernel_rfl))
  f173 := Tryd.func48.trans (congrArg some (by kernel_rfl))
  f246 := Tryd.func74.trans (congrArg some (by kernel_rfl))
  f283 := Tryd.func87.trans (congrArg some (by kernel_rfl))
  f284 := Tryd.func88.trans (congrArg some (by kernel_rfl))
  f285 := Tryd.func89.trans (congrArg some (by kernel_rfl))
  f286 := Tryd.func90.trans (congrArg some (by kernel_rfl))
  f317 := Tryd.func98.trans (congrArg some (by kernel_rfl))
  f318 := Tryd.func100.trans (congrArg some (by kernel_rfl))
  f319 := Tryd.func101.trans (congrArg some (by kernel_rfl))
  f320 := Tryd.func102.trans (congrArg some (by kernel_rfl))
  f337 := Tryd.func108.trans (congrArg some (by kernel_rfl))
  f338 := Tryd.func109.trans (congrArg some (by kernel_rfl))
  t0 := Tryd.underlying0
  a0 := Tryd.isAgg0
  z0 := Tryd.sizeOf0
  v0 := Tryd.zeroValue0
  t2 := Tryd.underlying2
  a2 := Tryd.isAgg2
  z2 := Tryd.sizeOf2
  v2 := Tryd.zeroValue2
  t3 := Tryd.underlying3
  a3 := Tryd.isAgg3
  z3 := Tryd.sizeOf3
  v3 := Tryd.zeroValue3
  t4 := Tryd.underlying4
  a4 := Tryd.isAgg4
  z4 := Tryd.sizeOf4
  v4 := Tryd.zeroValue4
  t5 := Tryd.underlying5
  a5 := Tryd.isAgg5
  z5 := Tryd.sizeOf5
  v5 := Tryd.zeroValue5
  t9 := Tryd.underlying9
  a9 := Tryd.isAgg9
  z9 := Tryd.sizeOf9
  v9 := Tryd.zeroValue9
  t20 := Tryd.underlying20
  a20 := Tryd.isAgg20
  z20 := Tryd.sizeOf20
  v20 := Tryd.zeroValue20
  t37 := Tryd.underlying62
  a37 := Tryd.isAgg62
  z37 := Tryd.sizeOf62
  v37 := Tryd.zeroValue62
  t46 := Tryd.underlying139
  a46 := Tryd.isAgg139
  z46 := Tryd.sizeOf139
  v46 := Tryd.zeroValue139
  t51 := Tryd.underlying136
  a51 := Tryd.isAgg136
  z51 := Tryd.sizeOf136
  v51 := Tryd.zeroValue136
  t53 := Tryd.underlying109
  a53 := Tryd.isAgg109
  z53 := Tryd.sizeOf109
  v53 := Tryd.zeroValue109
  t171 := Tryd.underlying125
  a171 := Tryd.isAgg125
  z171 := Tryd.sizeOf125
  v171 := Tryd.zeroValue125
  t173 := Tryd.underlying128
  a173 := Tryd.isAgg128
  z173 := Tryd.sizeOf128
  v173 := Tryd.zeroValue128
  t212 := Tryd.underlying135
  a212 := Tryd.isAgg135
  z212 := Tryd.sizeOf135
  v212 := Tryd.zeroValue135
  t213 := Tryd.underlying137
  a213 := Tryd.isAgg137
  z213 := Tryd.sizeOf137
  t232 := Tryd.underlying149
  a232 := Tryd.isAgg149
  z232 := Tryd.sizeOf149
  v232 := Tryd.zeroValue149
  t233 := Tryd.underlying150
  a233 := Tryd.isAgg150
  z233 := Tryd.sizeOf150
  v233 := Tryd.zeroValue150
  g17 := by kernel_rfl
  g18 := by kernel_rfl
  g19 := by kernel_rfl
  i0 := by kernel_rfl
  i2 := by kernel_rfl
  i3 := by kernel_rfl
  i4 := by kernel_rfl
  i5 := by kernel_rfl
  i9 := by kernel_rfl
  i20 := by kernel_rfl
  i37 := by kernel_rfl
  i46 := by kernel_rfl
  i51 := by kernel_rfl
  i53 := by kernel_rfl
  i171 := by kernel_rfl
  i173 := by kernel_rfl
  i212 := by kernel_rfl
  i232 := by kernel_rfl
  i233 := by kernel_rfl
  m17 := by kernel_rfl
  m18 := by kernel_rfl
  m19 := by kernel_rfl }
open Go.RowKit Go.Sort Go.Lib in
theorem Tryd.strconv_FormatInt_10 (n : Int) (h0 : -9223372036854775808 ≤ n) (h1 : n ≤ 9223372036854775807) (w : World) (htab : Lib.TabIs Tryd.prog w "internal/strconv.uint64pow10" .u64 Lib.pow10Tab) :
    Calls Tryd.prog 48 #[.int .i64 n, .int .i64 10] w fun e w' => e = .returned (.string ⟨(Lib.itoa n).toArray⟩) ∧ ∃ k os, w' = grow (w.drewN k) os := Any.strconv_FormatInt_10 Tryd.laysM173 n h0 h1 w htab
def Tryd.lays145_ren : Go.Shelf.Ren := ⟨fun | 145 => 50 | 220 => 76 | 219 => 91 | 217 => 82 | 225 => 103 | 224 => 104 | 267 => 105 | 266 => 94 | 314 => 110 | n => n, fun | 9 => 9 | 4 => 4 | 59 => 95 | 3 => 3 | 5 => 5 | 46 => 139 | 146 => 143 | 51 => 136 | n => n, fun | 1 => 1 | n => n⟩
theorem Tryd.lays145 : Go.Proofs.Lays.n145 Tryd.prog Tryd.lays145_ren := {
  mixed := by kernel_rfl
  f145 := Tryd.func50.trans (congrArg some (by kernel_rfl))
  f217 := Tryd.func82.trans (congrArg some (by kernel_rfl))
  f219 := Tryd.func91.trans (congrArg some (by kernel_rfl))
  f220 := Tryd.func76.trans (congrArg some (by kernel_rfl))
  f224 := Tryd.func104.trans (congrArg some (by kernel_rfl))
  f225 := Tryd.func103.trans (congrArg some (by kernel_rfl))
  f266 := Tryd.func94.trans (congrArg some (by kernel_rfl))
  f267 := Tryd.func105.trans (congrArg some (by kernel_rfl))
  f314 := Tryd.func110.trans (congrArg some (by kernel_rfl))
  t3 := Tryd.underlying3
  a3 := Tryd.isAgg3
  z3 := Tryd.sizeOf3
  v3 := Tryd.zeroValue3
  t4 := Tryd.underlying4
  a4 := Tryd.isAgg4
  z4 := Tryd.sizeOf4
  v4 := Tryd.zeroValue4
  t5 := Tryd.underlying5
  a5 := Tryd.isAgg5
  z5 := Tryd.sizeOf5
  v5 := Tryd.zeroValue5
  t9 := Tryd.underlying9
  a9 := Tryd.isAgg9
  z9 := Tryd.sizeOf9
  v9 := Tryd.zeroValue9
  t46 := Tryd.underlying139
  a46 := Tryd.isAgg139
  z46 := Tryd.sizeOf139
  v46 := Tryd.zeroValue139
  t51 := Tryd.underlying136
  a51 := Tryd.isAgg136
  z51 := Tryd.sizeOf136
  v51 := Tryd.zeroValue136
  t59 := Tryd.underlying95
  a59 := Tryd.isAgg95
  z59 := Tryd.sizeOf95
  v59 := Tryd.zeroValue95
  t146 := Tryd.underlying143
  a146 := Tryd.isAgg143
  z146 := Tryd.sizeOf143
  v146 := Tryd.zeroValue143
  g1 := by kernel_rfl }
open Go.RowKit Go.Lib in
theorem Tryd.strings_Cut (s sep : ByteArray) (m : Int) (w : World) (hs : s.size < 4294967281) (hm : w.cell? ⟨1, 0, none⟩ = some (.int .i64 m)) :
    Calls Tryd.prog 50 #[.string s, .string sep] w fun e w' => e = .returned (.tuple #[.string ⟨(Lib.cut s.data.toList sep.data.toList).1.toArray⟩, .string ⟨(Lib.cut s.data.toList sep.data.toList).2.1.toArray⟩, .bool (Lib.cut s.data.toList sep.data.toList).2.2]) ∧ ∃ n, w' = w.drewN n := Any.strings_Cut Tryd.lays145 s sep m w hs hm
def Tryd.laysM145_ren : Go.Shelf.Ren := ⟨fun | 145 => 50 | 220 => 76 | 219 => 91 | 217 => 82 | 225 => 103 | 224 => 104 | 267 => 105 | 266 => 94 | 314 => 110 | n => n, fun | 9 => 9 | 4 => 4 | 59 => 95 | 3 => 3 | 5 => 5 | 46 => 139 | 146 => 143 | 51 => 136 | n => n, fun | 1 => 1 | n => n⟩
theorem Tryd.laysM145 : Go.Proofs.LaysM.n145 Tryd.prog Tryd.laysM145_ren := {
  mixed := by kernel_rfl
  f145 := Tryd.func50.trans (congrArg some (by kernel_rfl))
  f217 := Tryd.func82.trans (congrArg some (by kernel_rfl))
  f219 := Tryd.func91.trans (congrArg some (by kernel_rfl))
  f220 := Tryd.func76.trans (congrArg some (by kernel_rfl))
  f224 := Tryd.func104.trans (congrArg some (by kernel_rfl))
  f225 := Tryd.func103.trans (congrArg some (by kernel_rfl))
  f266 := Tryd.func94.trans (congrArg some (by kernel_rfl))
  f267 := Tryd.func105.trans (congrArg some (by kernel_rfl))
  f314 := Tryd.func110.trans (congrArg some (by kernel_rfl))
  t3 := Tryd.underlying3
  a3 := Tryd.isAgg3
  z3 := Tryd.sizeOf3
  v3 := Tryd.zeroValue3
  t4 := Tryd.underlying4
  a4 := Tryd.isAgg4
  z4 := Tryd.sizeOf4
  v4 := Tryd.zeroValue4
  t5 := Tryd.underlying5
  a5 := Tryd.isAgg5
  z5 := Tryd.sizeOf5
  v5 := Tryd.zeroValue5
  t9 := Tryd.underlying9
  a9 := Tryd.isAgg9
  z9 := Tryd.sizeOf9
  v9 := Tryd.zeroValue9
  t46 := Tryd.underlying139
  a46 := Tryd.isAgg139
  z46 := Tryd.sizeOf139
  v46 := Tryd.zeroValue139
  t51 := Tryd.underlying136
  a51 := Tryd.isAgg136
  z51 := Tryd.sizeOf136
  v51 := Tryd.zeroValue136
  t59 := Tryd.underlying95
  a59 := Tryd.isAgg95
  z59 := Tryd.sizeOf95
  v59 := Tryd.zeroValue95
  t146 := Tryd.underlying143
  a146 := Tryd.isAgg143
  z146 := Tryd.sizeOf143
  v146 := Tryd.zeroValue143
  g1 := by kernel_rfl
  i3 := by kernel_rfl
  i4 := by kernel_rfl
  i5 := by kernel_rfl
  i9 := by kernel_rfl
  i46 := by kernel_rfl
  i51 := by kernel_rfl
  i59 := by kernel_rfl
  i146 := by kernel_rfl
  m1 := by kernel_rfl
  s1_3 := fun w h => Go.Proofs.cell_of_shapedOpen_int (zero := #[.int .i64 0]) (t := 3) h (of_decide_eq_true (by kernel_rfl)) (by kernel_rfl) rfl (by kernel_rfl) (by kernel_rfl) Tryd.underlying3 }
def Tryd.lays99_ren : Go.Shelf.Ren := ⟨fun | 99 => 77 | 206 => 92 | n => n, fun | 9 => 9 | 4 => 4 | 3 => 3 | n => n, fun | n => n⟩
theorem Tryd.lays99 : Go.Proofs.Lays.n99 Tryd.prog Tryd.lays99_ren := {
  mixed := by kernel_rfl
  f99 := Tryd.func77.trans (congrArg some (by kernel_rfl))
  f206 := Tryd.func92.trans (congrArg some (by kernel_rfl))
  t3 := Tryd.underlying3
  a3 := Tryd.isAgg3
  z3 := Tryd.sizeOf3
  v3 := Tryd.zeroValue3
  t4 := Tryd.underlying4
  a4 := Tryd.isAgg4
  z4 := Tryd.sizeOf4
  v4 := Tryd.zeroValue4
  t9 := Tryd.underlying9
  a9 := Tryd.isAgg9
  z9 := Tryd.sizeOf9
  v9 := Tryd.zeroValue9 }
open Go.RowKit Go.Lib in
theorem Tryd.strings_HasPrefix (s p : ByteArray) (w : World) :
    Calls Tryd.prog 77 #[.string s, .string p] w fun e w' => e = .returned (.bool (Lib.hasPrefix s.data.toList p.data.toList)) ∧ w' = w := Any.strings_HasPrefix Tryd.lays99 s p w
def Tryd.lays146_ren : Go.Shelf.Ren := ⟨fun | 146 => 42 | 221 => 70 | 268 => 83 | 138 => 84 | 143 => 85 | 195 => 95 | 197 => 96 | 218 => 97 | 219 => 91 | 260 => 107 | 217 => 82 | 225 => 103 | 224 => 104 | 267 => 105 | 266 => 94 | 314 => 110 | n => n, fun | 9 => 9 | 31 => 66 | 3 => 3 | 4 => 4 | 0 => 0 | 105 => 131 | 21 => 21 | 5 => 5 | 46 => 139 | 119 => 145 | 139 => 148 | 138 => 147 | 146 => 143 | 51 => 136 | n => n, fun | 1 => 1 | 3 => 2 | 4 => 3 | n => n⟩
theorem Tryd.lays146 : Go.Proofs.Lays.n146 Tryd.prog Tryd.lays146_ren := {
  mixed := by kernel_rfl
  f138 := Tryd.func84.trans (congrArg some (by kernel_rfl))
  f143 := Tryd.func85.trans (congrArg some (by kernel_rfl))
  f146 := Tryd.func42.trans (congrArg some (by kernel_rfl))
  f195 := Tryd.func95.trans (congrArg some (by kernel_rfl))
  f197 := Tryd.func96.trans (congrArg some (by kernel_rfl))
  f217 := Tryd.func82.trans (congrArg some (by kernel_rfl))
  f218 := Tryd.func97.trans (congrArg some (by kernel_rfl))
  f219 := Tryd.func91.trans (congrArg some (by kernel_rfl))
  f221 := Tryd.func70.trans (congrArg some (by kernel_rfl))
  f224 := Tryd.func104.trans (congrArg some (by kernel_rfl))
  f225 := Tryd.func103.trans (congrArg some (by kernel_rfl))
  f260 := Tryd.func107.trans (congrArg some (by kernel_rfl))
  f266 := Tryd.func94.trans (congrArg some (by kernel_rfl))
  f267 := Tryd.func105.trans (congrArg some (by kernel_rfl))
  f268 := Tryd.func83.trans (congrArg some (by kernel_rfl))
  f314 := Tryd.func110.trans (congrArg some (by kernel_rfl))
  t0 := Tryd.underlying0
  a0 := Tryd.isAgg0
  z0 := Tryd.sizeOf0
  v0 := Tryd.zeroValue0
  t3 := Tryd.underlying3
  a3 := Tryd.isAgg3
  z3 := Tryd.sizeOf3
  v3 := Tryd.zeroValue3
  t4 := Tryd.underlying4
  a4 := Tryd.isAgg4
  z4 := Tryd.sizeOf4
  v4 := Tryd.zeroValue4
  t5 := Tryd.underlying5
  a5 := Tryd.isAgg5
  z5 := Tryd.sizeOf5
  v5 := Tryd.zeroValue5
  t9 := Tryd.underlying9
  a9 := Tryd.isAgg9
  z9 := Tryd.sizeOf9
  v9 := Tryd.zeroValue9
  t21 := Tryd.underlying21
  a21 := Tryd.isAgg21
  z21 := Tryd.sizeOf21
  v21 := Tryd.zeroValue21
  t31 := Tryd.underlying66
  a31 := Tryd.isAgg66
  z31 := Tryd.sizeOf66
  v31 := Tryd.zeroValue66
  t46 := Tryd.underlying139
  a46 := Tryd.isAgg139
  z46 := Tryd.sizeOf139
  v46 := Tryd.zeroValue139
  t51 := Tryd.underlying136
  a51 := Tryd.isAgg136
  z51 := Tryd.sizeOf136
  v51 := Tryd.zeroValue136
  t105 := Tryd.underlying131
  a105 := Tryd.isAgg131
  z105 := Tryd.sizeOf131
  v105 := Tryd.zeroValue131
  t119 := Tryd.underlying145
  a119 := Tryd.isAgg145
  z119 := Tryd.sizeOf145
  t138 := Tryd.underlying147
  a138 := Tryd.isAgg147
  z138 := Tryd.sizeOf147
  v138 := Tryd.zeroValue147
  t139 := Tryd.underlying148
  a139 := Tryd.isAgg148
  z139 := Tryd.sizeOf148
  v139 := Tryd.zeroValue148
  t146 := Tryd.underlying143
  a146 := Tryd.isAgg143
  z146 := Tryd.sizeOf143
  v146 := Tryd.zeroValue143
  g1 := by kernel_rfl
  g3 := by kernel_rfl
  g4 := by kernel_rfl }
open Go.RowKit Go.Lib in
theorem Tryd.strings_Split (s sep : ByteArray) (m : Int) (w : World) (hs : s.size < 4294967281) (hm : w.cell? ⟨1, 0, none⟩ = some (.int .i64 m)) (h1 : 1 ≤ sep.size) :
    Calls Tryd.prog 42 #[.string s, .string sep] w fun e w' =>
      e = .returned (.slice (some ⟨w.heap.size, 0, none⟩) (Lib.countB s sep + 1) (Lib.countB s sep + 1)) ∧ w' = w.alloc (.cells ((Lib.splitB sep 0 (Lib.countB s sep) s).map Value.string).toArray 9) := Any.strings_Split Tryd.lays146 (by kernel_rfl) s sep m w hs hm h1
end Go.Proofs

namespace Go.Proofs.YtnalabphiaholaaDoor
open Go.RowKit Go.Sort
def askd (n d : Int) : Int := if chk n d ≠ 0 then chk n d else if 1073741824 < n.natAbs ∨ 1024 < d then 2 else 0
theorem chk_08 (n d : Int) : chk n d = 0 ∨ chk n d = 8 := by unfold chk; split <;> simp
theorem asked_any (n d : Int) (w : World) (h0 : -9223372036854775808 ≤ n) (h1 : n ≤ 9223372036854775807) (h2 : -9223372036854775808 ≤ d) (h3 : d ≤ 9223372036854775807) :
    Calls Tryd.prog 58 #[.agg #[.int .i64 n, .int .i64 d]] w fun e w' => e = .returned (.int .i64 (askd n d)) ∧ Below w.heap.size w w' := by
  cases hn : decide ((1073741824 : Int) < (n.natAbs : Nat)) <;> cases hd : decide (1024 < d)
  all_goals
    go_enter Tryd.func58, Tryd.ntmps58
    go_wp2_with (first | (go_at_call 47; (with_reducible refine cmono ?_ (check_any _ _ _ ?_ ?_ ?_ ?_)); rotate_left; omega; omega; omega; omega; rintro e w' ⟨rfl, hbc0⟩; obtain ⟨⟨dc0, osc0⟩, rfl⟩ := regrown_of_below hbc0; clear hbc0) | (go_at_call 73; (with_reducible refine cmono ?_ (abs_any _ _ ?_ ?_)); rotate_left; omega; omega; rintro e w' ⟨rfl, hbc1⟩; obtain ⟨⟨dc1, osc1⟩, rfl⟩ := regrown_of_below hbc1; clear hbc1) | ((with_reducible refine wp_region_quiet_below ?_ ?_ ?_); kernel_rfl; kernel_rfl; (repeat (go_big_quiet_step (first | (go_at_call 47; (with_reducible refine Calls.regrown_of (check_any _ _ _ ?_ ?_ ?_ ?_)); omega; omega; omega; omega) | (go_at_call 73; (with_reducible refine Calls.regrown_of (abs_any _ _ ?_ ?_)); omega; omega)))); refine wpQuiet_nil ?_; intro _ hw'; obtain ⟨⟨dq, osq⟩, hw''⟩ := hw'; subst hw''))
    all_goals (go_ret; refine ⟨ret_int ?_, (by repeat (first | exact Below.refl _ _ | refine below_reg ?_ _ _ | refine below_alloc ?_ _ | exact below_drewN ?_ _ | assumption))⟩)
    all_goals (simp only [bne_iff_ne, bne_eq_false_iff_eq, decide_eq_true_eq, decide_eq_false_iff_not, ne_eq] at *)
    all_goals (unfold askd; (first | rw [if_pos (by omega)] | rw [if_neg (by omega)]))
    all_goals (first | rfl | (rw [if_pos (by omega)]; done) | (rw [if_neg (by omega)]; done))
end Go.Proofs.YtnalabphiaholaaDoor

namespace Go.Proofs.YtnalabphiaholaaDoor
open Go.RowKit Go.Sort
end Go.Proofs.YtnalabphiaholaaDoor

namespace Go.Proofs.YtnalabphiaholaaDoor
end Go.Proofs.YtnalabphiaholaaDoor

namespace Go.Proofs.YtnalabphiaholaaDoor
open Go.RowKit Go.Sort
end Go.Proofs.YtnalabphiaholaaDoor

namespace Go.Proofs.YtnalabphiaholaaDoor
open Go.RowKit Go.Sort
end Go.Proofs.YtnalabphiaholaaDoor

namespace Go.Proofs.YtnalabphiaholaaDoor
open Go.RowKit Go.Sort
def Two (hi lo m : Nat) : Prop := hi = m / 18446744073709551616 ∧ lo = m % 18446744073709551616
theorem Two.eq {hi lo m : Nat} (h : Two hi lo m) : hi * 18446744073709551616 + lo = m := by
  obtain ⟨rfl, rfl⟩ := h
  have := Nat.div_add_mod m 18446744073709551616
  rw [Nat.mul_comm] at this
  exact this
theorem Two.lo {hi lo m : Nat} (h : Two hi lo m) : lo < 18446744073709551616 := by
  obtain ⟨rfl, rfl⟩ := h
  exact Nat.mod_lt _ (by decide)
theorem Two.hi {hi lo m : Nat} (h : Two hi lo m) (k : Nat) (hm : m < k * 18446744073709551616) : hi < k := by
  obtain ⟨rfl, rfl⟩ := h
  rw [Nat.div_lt_iff_lt_mul (by decide)]
  exact hm
end Go.Proofs.YtnalabphiaholaaDoor

namespace Go.Proofs.YtnalabphiaholaaDoor
open Go.RowKit
end Go.Proofs.YtnalabphiaholaaDoor

namespace Go.Proofs.YtnalabphiaholaaDoor
open Go.RowKit Go.Sort
end Go.Proofs.YtnalabphiaholaaDoor

namespace Go.Proofs.YtnalabphiaholaaDoor
open Go.RowKit Go.Sort
theorem rcommon_any (a b : Nat) (w : World) :
    Calls Tryd.prog 64 #[.int .u64 a, .int .u64 b] w fun e w' => e = .returned (.int .u64 (Nat.gcd a b : Nat)) ∧ Below w.heap.size w w' := by
  go_enter Tryd.func64, Tryd.ntmps64
  go_wp2
  go_loopw [0, 1] (fun x y wr => ∃ n m : Nat, x = .int .u64 n ∧ y = .int .u64 m ∧ Hid (Nat.gcd n m = Nat.gcd a b) ∧ Below w.heap.size w wr) (fun _ y _ => (intOf y).toNat)
  case atStart => exact ⟨a, b, rfl, rfl, Lib.hid rfl, Below.refl _ _⟩
  case round =>
    obtain ⟨n, m, rfl, rfl, hg, hb⟩ := hrel
    by_cases h0 : 0 < m
    · have hz : ((m : Int) != 0) = true := by simp; omega
      have hz2 : ((m : Int) == 0) = false := by simp; omega
      go_wp2
      go_quiet (fail)
      go_wp2
      have hlt := Nat.mod_lt n h0
      refine ⟨⟨m, n % m, rfl, by simp, Lib.hid ?_, below_drewN hb _⟩, ?_⟩
      · rw [← hg.out, Nat.gcd_comm n m, Nat.gcd_rec m n, Nat.gcd_comm]
      · show ((n : Int) % (m : Int)).toNat < ((m : Int)).toNat
        omega
    · obtain rfl : m = 0 := by omega
      go_wp2
      go_ret
      refine ⟨ret_int ?_, hb⟩
      rw [← hg.out]
      simp
theorem rsize_any (n : Int) (w : World) (h0 : -9223372036854775808 ≤ n) (h1 : n ≤ 9223372036854775807) :
    Calls Tryd.prog 65 #[.int .i64 n] w fun e w' => e = .returned (.int .u64 (n.natAbs : Nat)) ∧ Below w.heap.size w w' := by
  by_cases hn : n < 0
  · go_enter Tryd.func65, Tryd.ntmps65
    go_wp2_with (first | ((with_reducible refine wp_region_quiet_below ?_ ?_ ?_); kernel_rfl; kernel_rfl; (repeat (go_big_quiet_step (fail))); refine wpQuiet_nil ?_; intro _ hw'; obtain ⟨⟨dq, osq⟩, hw''⟩ := hw'; subst hw''))
    go_ret
    refine ⟨ret_int ?_, Below.refl _ _⟩
    show -(n + 1) + 1 = _
    omega
  · go_enter Tryd.func65, Tryd.ntmps65
    go_wp2_with (first | ((with_reducible refine wp_region_quiet_below ?_ ?_ ?_); kernel_rfl; kernel_rfl; (repeat (go_big_quiet_step (fail))); refine wpQuiet_nil ?_; intro _ hw'; obtain ⟨⟨dq, osq⟩, hw''⟩ := hw'; subst hw''))
    go_ret
    refine ⟨ret_int ?_, Below.refl _ _⟩
    omega
theorem chk_alt (n d : Int) (hd : 1 ≤ d) (hn : n ≠ -9223372036854775808) : chk n d = if Nat.gcd n.natAbs d.toNat ≤ 1 then 0 else 8 := by
  unfold chk
  rw [Nat.gcd_comm]
  split <;> split <;> first | rfl | omega
theorem rcheck_any (n d : Int) (w : World) (h0 : -9223372036854775808 ≤ n) (h1 : n ≤ 9223372036854775807) (h2 : -9223372036854775808 ≤ d) (h3 : d ≤ 9223372036854775807) :
    Calls Tryd.prog 35 #[.agg #[.int .i64 n, .int .i64 d]] w fun e w' => e = .returned (.int .i64 (chk n d)) ∧ Below w.heap.size w w' := by
  by_cases hd : d < 1
  · have hch : chk n d = 8 := by unfold chk; rw [if_pos (.inl hd)]
    rw [hch]
    go_enter Tryd.func35, Tryd.ntmps35
    go_wp2_with (first | ((with_reducible refine wp_region_quiet_below ?_ ?_ ?_); kernel_rfl; kernel_rfl; (repeat (go_big_quiet_step (fail))); refine wpQuiet_nil ?_; intro _ hw'; obtain ⟨⟨dq, osq⟩, hw''⟩ := hw'; subst hw''))
    go_ret
    exact ⟨rfl, (by repeat (first | exact Below.refl _ _ | refine below_reg ?_ _ _ | refine below_alloc ?_ _ | exact below_drewN ?_ _ | assumption))⟩
  · have hdf : decide (d < 1) = false := by simpa using hd
    by_cases hm : n = -9223372036854775808
    · have hch : chk n d = 8 := by unfold chk; rw [if_pos (.inr (.inl hm))]
      rw [hch]
      have hmb : (n == -9223372036854775808) = true := by simpa using hm
      clear hm
      go_enter Tryd.func35, Tryd.ntmps35
      go_wp2_with (first | ((with_reducible refine wp_region_quiet_below ?_ ?_ ?_); kernel_rfl; kernel_rfl; (repeat (go_big_quiet_step (fail))); refine wpQuiet_nil ?_; intro _ hw'; obtain ⟨⟨dq, osq⟩, hw''⟩ := hw'; subst hw''))
      go_ret
      exact ⟨rfl, (by repeat (first | exact Below.refl _ _ | refine below_reg ?_ _ _ | refine below_alloc ?_ _ | exact below_drewN ?_ _ | assumption))⟩
    · have hmb : (n == -9223372036854775808) = false := by simpa using hm
      rw [chk_alt n d (by omega) hm]
      obtain ⟨e, rfl⟩ := Int.eq_ofNat_of_zero_le (show 0 ≤ d by omega)
      rw [Int.toNat_natCast]
      obtain ⟨g, hg⟩ : ∃ g, g = Nat.gcd n.natAbs e := ⟨_, rfl⟩
      have HG := fun w => rcommon_any n.natAbs e w
      have hg0 : 0 < g := by rw [hg]; exact Nat.gcd_pos_of_pos_right _ (by omega)
      rw [← hg] at HG ⊢
      have HGG := Lib.hid HG
      clear hg HG hm
      cases hb : ((g : Int) != 1)
      · rw [if_pos (by simp at hb; omega)]
        go_enter Tryd.func35, Tryd.ntmps35
        go_wp2_with (first | (go_at_call 65; (with_reducible refine cmono ?_ (rsize_any _ _ ?_ ?_)); rotate_left; omega; omega; rintro e w' ⟨rfl, hbc0⟩; obtain ⟨⟨dc0, osc0⟩, rfl⟩ := regrown_of_below hbc0; clear hbc0) | (go_at_call 64; (with_reducible refine cmono ?_ (HGG.out _)); rotate_left; rintro e w' ⟨rfl, hbc1⟩; obtain ⟨⟨dc1, osc1⟩, rfl⟩ := regrown_of_below hbc1; clear hbc1) | ((with_reducible refine wp_region_quiet_below ?_ ?_ ?_); kernel_rfl; kernel_rfl; (repeat (go_big_quiet_step (first | (go_at_call 65; (with_reducible refine Calls.regrown_of (rsize_any _ _ ?_ ?_)); omega; omega) | (go_at_call 64; (with_reducible refine Calls.regrown_of (HGG.out _)))))); refine wpQuiet_nil ?_; intro _ hw'; obtain ⟨⟨dq, osq⟩, hw''⟩ := hw'; subst hw''))
        go_ret
        exact ⟨rfl, (by repeat (first | exact Below.refl _ _ | refine below_reg ?_ _ _ | refine below_alloc ?_ _ | exact below_drewN ?_ _ | assumption))⟩
      · rw [if_neg (by simp at hb; omega)]
        go_enter Tryd.func35, Tryd.ntmps35
        go_wp2_with (first | (go_at_call 65; (with_reducible refine cmono ?_ (rsize_any _ _ ?_ ?_)); rotate_left; omega; omega; rintro e w' ⟨rfl, hbc0⟩; obtain ⟨⟨dc0, osc0⟩, rfl⟩ := regrown_of_below hbc0; clear hbc0) | (go_at_call 64; (with_reducible refine cmono ?_ (HGG.out _)); rotate_left; rintro e w' ⟨rfl, hbc1⟩; obtain ⟨⟨dc1, osc1⟩, rfl⟩ := regrown_of_below hbc1; clear hbc1) | ((with_reducible refine wp_region_quiet_below ?_ ?_ ?_); kernel_rfl; kernel_rfl; (repeat (go_big_quiet_step (first | (go_at_call 65; (with_reducible refine Calls.regrown_of (rsize_any _ _ ?_ ?_)); omega; omega) | (go_at_call 64; (with_reducible refine Calls.regrown_of (HGG.out _)))))); refine wpQuiet_nil ?_; intro _ hw'; obtain ⟨⟨dq, osq⟩, hw''⟩ := hw'; subst hw''))
        go_ret
        exact ⟨rfl, (by repeat (first | exact Below.refl _ _ | refine below_reg ?_ _ _ | refine below_alloc ?_ _ | exact below_drewN ?_ _ | assumption))⟩
theorem rasked_any (n d : Int) (w : World) (h0 : -9223372036854775808 ≤ n) (h1 : n ≤ 9223372036854775807) (h2 : -9223372036854775808 ≤ d) (h3 : d ≤ 9223372036854775807) :
    Calls Tryd.prog 60 #[.agg #[.int .i64 n, .int .i64 d]] w fun e w' => e = .returned (.int .i64 (askd n d)) ∧ Below w.heap.size w w' := by
  cases ha : decide ((1073741824 : Int) < n) <;> cases hb : decide (n < -1073741824) <;> cases hc : decide (1024 < d)
  all_goals
    go_enter Tryd.func60, Tryd.ntmps60
    go_wp2_with (first | (go_at_call 35; (with_reducible refine cmono ?_ (rcheck_any _ _ _ ?_ ?_ ?_ ?_)); rotate_left; omega; omega; omega; omega; rintro e w' ⟨rfl, hbc0⟩; obtain ⟨⟨dc0, osc0⟩, rfl⟩ := regrown_of_below hbc0; clear hbc0) | ((with_reducible refine wp_region_quiet_below ?_ ?_ ?_); kernel_rfl; kernel_rfl; (repeat (go_big_quiet_step (first | (go_at_call 35; (with_reducible refine Calls.regrown_of (rcheck_any _ _ _ ?_ ?_ ?_ ?_)); omega; omega; omega; omega)))); refine wpQuiet_nil ?_; intro _ hw'; obtain ⟨⟨dq, osq⟩, hw''⟩ := hw'; subst hw''))
    all_goals (go_ret; refine ⟨ret_int ?_, (by repeat (first | exact Below.refl _ _ | refine below_reg ?_ _ _ | refine below_alloc ?_ _ | exact below_drewN ?_ _ | assumption))⟩)
    all_goals (simp only [bne_iff_ne, bne_eq_false_iff_eq, decide_eq_true_eq, decide_eq_false_iff_not, ne_eq] at *)
    all_goals first | (exfalso; omega) | skip
    all_goals (unfold askd; (first | rw [if_pos (by omega)] | rw [if_neg (by omega)]))
    all_goals (first | rfl | (rw [if_pos (by omega)]; done) | (rw [if_neg (by omega)]; done))
end Go.Proofs.YtnalabphiaholaaDoor

namespace Go.Proofs.YtnalabphiaholaaDoor
open Go.RowKit
end Go.Proofs.YtnalabphiaholaaDoor

namespace Go.Proofs.YtnalabphiaholaaDoor
open Go.RowKit Go.Sort
end Go.Proofs.YtnalabphiaholaaDoor

namespace Go.Proofs.YtnalabphiaholaaDoor
open Go.RowKit Go.Sort
end Go.Proofs.YtnalabphiaholaaDoor

namespace Go.Proofs.YtnalabphiaholaaDoor
open Go.RowKit
end Go.Proofs.YtnalabphiaholaaDoor

namespace Go.Proofs.YtnalabphiaholaaDoor
open Go.RowKit Go.Sort
end Go.Proofs.YtnalabphiaholaaDoor

namespace Go.Proofs.YtnalabphiaholaaDoor
open Go.RowKit Go.Sort
end Go.Proofs.YtnalabphiaholaaDoor

namespace Go.Proofs.YtnalabphiaholaaDoor
open Go.RowKit
def qv (n d : Int) : Rat := mkRat n d.toNat
theorem chk_iff (n d : Int) : chk n d = 0 ↔ 1 ≤ d ∧ n ≠ -9223372036854775808 ∧ n.natAbs.Coprime d.toNat := by
  unfold chk Nat.Coprime
  rw [Nat.gcd_comm n.natAbs]
  have hg : 1 ≤ d → 0 < Nat.gcd d.toNat n.natAbs := fun h => Nat.gcd_pos_of_pos_left _ (by omega)
  split
  · rename_i h
    constructor
    · intro h'; omega
    · rintro ⟨h1, h2, h3⟩; exfalso; omega
  · rename_i h
    have h1 : 1 ≤ d := by omega
    have := hg h1
    exact ⟨fun _ => ⟨h1, by omega, by omega⟩, fun _ => rfl⟩
def outQ (q : Rat) : Int × Int × Int := if q.num.natAbs ≤ 9223372036854775807 ∧ q.den ≤ 9223372036854775807 then (q.num, q.den, 0) else (0, 0, 16)
end Go.Proofs.YtnalabphiaholaaDoor

namespace Go.Proofs.YtnalabphiaholaaDoor
open Go.RowKit Go.Sort
end Go.Proofs.YtnalabphiaholaaDoor

namespace Go.Proofs.YtnalabphiaholaaDoor
open Go.RowKit Go.Sort
end Go.Proofs.YtnalabphiaholaaDoor

namespace Go.Proofs.YtnalabphiaholaaDoor
open Go.RowKit
end Go.Proofs.YtnalabphiaholaaDoor

namespace Go.Proofs.YtnalabphiaholaaDoor
open Go.RowKit Go.Sort Sx
abbrev i64 (n : Int) : D := .v (.int .i64 n)
abbrev u64 (n : Int) : D := .v (.int .u64 n)
abbrev bol (b : Bool) : D := .v (.bool b)
theorem wd_i64 {n : Int} : WD (i64 n) ↔ -9223372036854775808 ≤ n ∧ n ≤ 9223372036854775807 := WD_v
theorem wd1 {n d : Int} (h : WDCs [.agg [i64 n, i64 d]]) : -9223372036854775808 ≤ n ∧ n ≤ 9223372036854775807 ∧ -9223372036854775808 ≤ d ∧ d ≤ 9223372036854775807 := by
  simp only [WDCs, WDC, WDs, wd_i64] at h; omega
theorem askd_rng (n d : Int) : 0 ≤ askd n d ∧ askd n d ≤ 8 := by
  unfold askd
  rcases chk_08 n d with h | h <;> rw [h] <;> simp <;> (try split) <;> omega
abbrev ret1 (x : Int) : DV := .c (.one (i64 x))
theorem check_fn (n d : Int) : FnOK Tryd.prog 47 [.agg [i64 n, i64 d]] (ret1 (chk n d)) := by
  refine fn_of_calls (fun _ _ => Tryd.call47 _ _) rfl rfl (fun h => ?_) (fun h w => ?_)
  · simp only [WDV, WDCs, WDC, WDs, wd_i64, and_true]
    rcases chk_08 n d with h | h <;> omega
  · obtain ⟨_, _, _, _⟩ := wd1 h
    exact check_any n d w (by omega) (by omega) (by omega) (by omega)
theorem asked_fn (n d : Int) : FnOK Tryd.prog 58 [.agg [i64 n, i64 d]] (ret1 (askd n d)) := by
  refine fn_of_calls (fun _ _ => Tryd.call58 _ _) rfl rfl (fun h => ?_) (fun h w => ?_)
  · simp only [WDV, WDCs, WDC, WDs, wd_i64, and_true]
    have := askd_rng n d
    omega
  · obtain ⟨_, _, _, _⟩ := wd1 h
    exact asked_any n d w (by omega) (by omega) (by omega) (by omega)
theorem rcheck_fn (n d : Int) : FnOK Tryd.prog 35 [.agg [i64 n, i64 d]] (ret1 (chk n d)) := by
  refine fn_of_calls (fun _ _ => Tryd.call35 _ _) rfl rfl (fun h => ?_) (fun h w => ?_)
  · simp only [WDV, WDCs, WDC, WDs, wd_i64, and_true]
    rcases chk_08 n d with h | h <;> omega
  · obtain ⟨_, _, _, _⟩ := wd1 h
    exact rcheck_any n d w (by omega) (by omega) (by omega) (by omega)
theorem rasked_fn (n d : Int) : FnOK Tryd.prog 60 [.agg [i64 n, i64 d]] (ret1 (askd n d)) := by
  refine fn_of_calls (fun _ _ => Tryd.call60 _ _) rfl rfl (fun h => ?_) (fun h w => ?_)
  · simp only [WDV, WDCs, WDC, WDs, wd_i64, and_true]
    have := askd_rng n d
    omega
  · obtain ⟨_, _, _, _⟩ := wd1 h
    exact rasked_any n d w (by omega) (by omega) (by omega) (by omega)
end Go.Proofs.YtnalabphiaholaaDoor

namespace Go.Proofs.YtnalabphiaholaaDoor
open Go.RowKit Go.Sort Sx
end Go.Proofs.YtnalabphiaholaaDoor

namespace Go.Proofs.YtnalabphiaholaaDoor
open Go.RowKit Go.Sort Sx
abbrev pt (i a b : Int) : DC := .agg [i64 i, i64 a, i64 b]
def far (n : Int) : Bool := decide (n < -1048576 ∨ n > 1048576)
theorem far_t {n : Int} {A B : Prop} (h1 : n < -1048576 ∨ 1048576 < n → A) (h2 : -1048576 ≤ n ∧ n ≤ 1048576 → B) : br (far n) A B := brd h1 fun h => h2 (by omega)
theorem far_y {n : Int} {A B : Prop} (e : n < -1048576 ∨ 1048576 < n) (h : A) : br (far n) A B := brd_t e h
theorem far_n {n : Int} {A B : Prop} (e : -1048576 ≤ n ∧ n ≤ 1048576) (h : B) : br (far n) A B := brd_f (by omega) h
def cpt (i a b : Int) : Int := if 0 ≤ i ∧ i ≤ 65535 ∧ -1048576 ≤ a ∧ a ≤ 1048576 ∧ -1048576 ≤ b ∧ b ≤ 1048576 then 0 else 8
theorem cpt_08 (i a b : Int) : cpt i a b = 0 ∨ cpt i a b = 8 := by unfold cpt; split <;> simp
theorem cpt_ok {i a b : Int} (h : cpt i a b = 0) : 0 ≤ i ∧ i ≤ 65535 ∧ -1048576 ≤ a ∧ a ≤ 1048576 ∧ -1048576 ≤ b ∧ b ≤ 1048576 := by
  unfold cpt at h; split at h
  · assumption
  · cases h
theorem kfar_fnd (n : Int) : FnD Tryd.prog 80 [.one (i64 n)] (.c (.one (bol (far n)))) := by
  refine fn_okD (by kernel_rfl) ty_okD rfl Tryd.func80 rfl (fun _ _ => Tryd.call80 _ _) rfl ?_
  intro hw
  repeat' ((conv => whnf); first | (with_reducible first | refine br_t ?_ | refine br_f ?_ | refine zd ?_ | refine za ?_ | refine zg ?_) | refine zp ?_ | refine zq ?_ | (with_reducible first | refine bc (fun h => ?_) (fun h => ?_) | refine zt ?_ | refine zf ?_ | refine br_i (fun h => ?_) (fun h => ?_)) | refine zg ?_ | refine zi ?_ | refine zb ?_)
  all_goals conv => whnf
  all_goals
    refine r_bool ?_
    unfold far
    first
    | exact (decide_eq_true (by omega)).symm
    | (have e : (n > 1048576) = (n < -1048576 ∨ n > 1048576) := propext ⟨.inr, fun h => by omega⟩
       exact decide_eq_decide.2 (by omega))
theorem kCheck_fnd (i a b : Int) : FnD Tryd.prog 62 [pt i a b] (ret1 (cpt i a b)) := by
  refine fn_okD (by kernel_rfl) ty_okD rfl Tryd.func62 rfl (fun _ _ => Tryd.call62 _ _) rfl ?_
  intro hw
  repeat' ((conv => whnf); first | (with_reducible first | refine br_t ?_ | refine br_f ?_ | refine zd ?_ | refine za ?_ | refine zg ?_ | refine xi (kfar_fnd _) ?_) | first | ((with_reducible refine far_y ?_ ?_); omega) | ((with_reducible refine far_n ?_ ?_); omega) | (with_reducible refine far_t (fun h => ?_) (fun h => ?_)) | refine zp ?_ | refine zq ?_ | (with_reducible first | refine bc (fun h => ?_) (fun h => ?_) | refine zt ?_ | refine zf ?_ | refine br_i (fun h => ?_) (fun h => ?_)) | refine zg ?_ | refine zi ?_ | refine zb ?_)
  all_goals conv => whnf
  all_goals
    refine r_int ?_
    unfold cpt
    first
    | rw [if_pos (by omega)]
    | rw [if_neg (by omega)]
theorem kCheck_fn (i a b : Int) : FnOK Tryd.prog 62 [pt i a b] (ret1 (cpt i a b)) := (kCheck_fnd i a b).ok
theorem kkCheck_fn (i a b : Int) : FnOK Tryd.prog 63 [pt i a b] (ret1 (cpt i a b)) := by
  refine fn_ok (by kernel_rfl) ty_ok Tryd.func63 rfl (fun _ _ => Tryd.call63 _ _) rfl ?_
  intro hw
  repeat' ((conv => whnf); first | (with_reducible first | refine br_t ?_ | refine br_f ?_ | refine za ?_ | refine zg ?_) | refine zp ?_ | refine zq ?_ | (with_reducible first | refine bc (fun h => ?_) (fun h => ?_) | refine zt ?_ | refine zf ?_ | refine br_i (fun h => ?_) (fun h => ?_)) | refine zg ?_ | refine zi ?_ | refine zb ?_)
  all_goals conv => whnf
  all_goals
    refine r_int ?_
    unfold cpt
    first
    | rw [if_pos (by omega)]
    | rw [if_neg (by omega)]
end Go.Proofs.YtnalabphiaholaaDoor

namespace Go.Proofs.YtnalabphiaholaaDoor
open Go.RowKit Go.Sort Sx
end Go.Proofs.YtnalabphiaholaaDoor

namespace Go.Proofs.YtnalabphiaholaaDoor
open Go.RowKit Go.Sort Sx
end Go.Proofs.YtnalabphiaholaaDoor

namespace Go.Proofs.YtnalabphiaholaaDoor
open Go.RowKit
end Go.Proofs.YtnalabphiaholaaDoor

namespace Go.Proofs.YtnalabphiaholaaDoor
open Go.RowKit Go.Sort Sx
end Go.Proofs.YtnalabphiaholaaDoor

namespace Go.Proofs.YtnalabphiaholaaDoor
open Go.RowKit Go.Sort Sx
end Go.Proofs.YtnalabphiaholaaDoor

namespace Go.Proofs.YtnalabphiaholaaDoor
open Go.RowKit Go.Sort Sx
end Go.Proofs.YtnalabphiaholaaDoor

namespace Go.Proofs.YtnalabphiaholaaDoor
open Go.RowKit Go.Sort Sx
structure Pt where
  id : Int
  a : Int
  b : Int
  deriving DecidableEq, Inhabited
def Pt.c (p : Pt) : List D := [i64 p.id, i64 p.a, i64 p.b]
abbrev Pt.dc (p : Pt) : DC := pt p.id p.a p.b
abbrev pts (l : List Pt) : D := .list 3 (l.map Pt.c)
def Pt.chk (p : Pt) : Int := cpt p.id p.a p.b
theorem Pt.chk_08 (p : Pt) : p.chk = 0 ∨ p.chk = 8 := cpt_08 p.id p.a p.b
end Go.Proofs.YtnalabphiaholaaDoor

namespace Go.Proofs.YtnalabphiaholaaDoor
open Go Go.RowKit Sx
theorem fits_point {ds : List D} (h : Fits shPoint ds) : ∃ p : Pt, ds = p.c := by
  obtain ⟨_, _, rfl, ⟨n, rfl⟩, _, _, rfl, ⟨m, rfl⟩, _, _, rfl, ⟨k, rfl⟩, rfl⟩ := h
  exact ⟨⟨n, m, k⟩, rfl⟩
end Go.Proofs.YtnalabphiaholaaDoor

namespace Go.Proofs.YtnalabphiaholaaDoor
open Go.RowKit Go.Sort Sx
def has (l : List Pt) (id : Int) : Bool := l.any fun p => p.id == id
end Go.Proofs.YtnalabphiaholaaDoor

namespace Go.Proofs.YtnalabphiaholaaDoor
open Go.RowKit Go.Sort Sx
end Go.Proofs.YtnalabphiaholaaDoor

namespace Go.Proofs.YtnalabphiaholaaDoor
open Go.RowKit Go.Sort Sx
structure Md where
  n : Int
  d : Int
  l : List Pt
  deriving DecidableEq, Inhabited
def Md.c (m : Md) : List D := [i64 m.n, i64 m.d, pts m.l]
abbrev Md.dc (m : Md) : DC := .agg [i64 m.n, i64 m.d, pts m.l]
end Go.Proofs.YtnalabphiaholaaDoor

namespace Go.Proofs.YtnalabphiaholaaDoor
open Go Go.RowKit Sx
namespace Sx
end Sx
end Go.Proofs.YtnalabphiaholaaDoor

namespace Go.Proofs.YtnalabphiaholaaDoor
open Go Go.RowKit Go.Sort Sx
abbrev u8 (n : Int) : D := .v (.int .u8 n)
structure Ak where
  k : Int
  p : Pt
  id : Int
  n : Int
  d : Int
  deriving DecidableEq, Inhabited
def Ak.c (a : Ak) : List D := [u8 a.k, i64 a.p.id, i64 a.p.a, i64 a.p.b, i64 a.id, i64 a.n, i64 a.d]
abbrev Ak.dc (a : Ak) : DC := .agg [u8 a.k, i64 a.p.id, i64 a.p.a, i64 a.p.b, i64 a.id, i64 a.n, i64 a.d]
def formV (a : Ak) : Bool :=
  decide ((a.k = 1 ∨ a.k = 3) ∧ a.id = 0 ∧ a.n = 0 ∧ a.d = 0 ∨ a.k = 2 ∧ a.p.id = 0 ∧ a.p.a = 0 ∧ a.p.b = 0 ∧ a.n = 0 ∧ a.d = 0 ∨ a.k = 4 ∧ a.p.id = 0 ∧ a.p.a = 0 ∧ a.p.b = 0 ∧ a.id = 0 ∨
    (a.k = 5 ∨ a.k = 6) ∧ a.p.id = 0 ∧ a.p.a = 0 ∧ a.p.b = 0 ∧ a.id = 0 ∧ a.n = 0 ∧ a.d = 0)
end Go.Proofs.YtnalabphiaholaaDoor

namespace Go.Proofs.YtnalabphiaholaaDoor
open Go Go.RowKit
namespace Sx
variable {P : Program} {sz : Nat} {E : Env} {H : Hp}
end Sx
end Go.Proofs.YtnalabphiaholaaDoor

namespace Go.Proofs.YtnalabphiaholaaDoor
open Go Go.RowKit Go.Sort Sx
abbrev bstr (l : List UInt8) : Value := .string ⟨l.toArray⟩
abbrev str (l : List UInt8) : Sx.D := .v (.string ⟨l.toArray⟩)
theorem str_toList (a : List UInt8) : (⟨a.toArray⟩ : ByteArray).toList = a := by rw [Lib.toList_data]
theorem str_size (a : List UInt8) : (⟨a.toArray⟩ : ByteArray).size = a.length := rfl
theorem str_append (a b : List UInt8) : (⟨a.toArray⟩ : ByteArray) ++ ⟨b.toArray⟩ = ⟨(a ++ b).toArray⟩ := by
  apply ByteArray.ext
  simp
theorem str_extract (a : List UInt8) (i j : Nat) : (⟨a.toArray⟩ : ByteArray).extract i j = ⟨((a.take j).drop i).toArray⟩ := by
  apply ByteArray.ext
  rw [ByteArray.data_extract]
  apply Array.ext'
  simp [List.extract_eq_take_drop, List.drop_take]
theorem str_get (a : List UInt8) (i : Nat) : (⟨a.toArray⟩ : ByteArray)[i]? = a[i]? := by
  by_cases h : i < a.length
  · have h' : i < (⟨a.toArray⟩ : ByteArray).size := h
    rw [List.getElem?_eq_getElem h, getElem?_pos (⟨a.toArray⟩ : ByteArray) i h']; rfl
  · have h' : ¬ i < (⟨a.toArray⟩ : ByteArray).size := h
    rw [List.getElem?_eq_none (by omega), getElem?_neg (⟨a.toArray⟩ : ByteArray) i h']
theorem run_cat {P : Program} {t : Nat} {x y : Operand} {a b : List UInt8} (h : a.length + b.length ≤ 9223372036854775807) (w : World) : (do eqGuard .add t x y (bstr a) (bstr b); binOp .add t (bstr a) (bstr b) : Sem Value).run P w = .ok (bstr (a ++ b)) w := by
  have := run_string_add_sum (P := P) (w := w) (⟨a.toArray⟩ : ByteArray) ⟨b.toArray⟩ h
  simp only [Sem.run_bind]
  show (binOp .add t (bstr a) (bstr b)).run P w = _
  rw [binOp_string_add, this, str_append]
theorem run_seq {P : Program} {t : Nat} {x y : Operand} {a b : List UInt8} (w : World) : (do eqGuard .eql t x y (bstr a) (bstr b); binOp .eql t (bstr a) (bstr b) : Sem Value).run P w = .ok (.bool (decide (a = b))) w := by
  simp only [Sem.run_bind]
  show (binOp .eql t (bstr a) (bstr b)).run P w = _
  rw [binOp_string_eql, str_toList, str_toList]
  simp [go_sem]
  by_cases h : a = b <;> simp [h]
theorem run_sne {P : Program} {t : Nat} {x y : Operand} {a b : List UInt8} (w : World) : (do eqGuard .neq t x y (bstr a) (bstr b); binOp .neq t (bstr a) (bstr b) : Sem Value).run P w = .ok (.bool (decide (¬ a = b))) w := by
  simp only [Sem.run_bind]
  show (binOp .neq t (bstr a) (bstr b)).run P w = _
  rw [binOp_string_neq, str_toList, str_toList]
  simp [go_sem]
  by_cases h : a = b <;> simp [h]
theorem cat_pv {P : Program} {t : Nat} {x y : Operand} {a b : List UInt8} (h : a.length + b.length ≤ 9223372036854775807) : (bstr (a ++ b)).oneCell' = true ∧ wfV (bstr (a ++ b)) ∧ ∀ w, (do eqGuard .add t x y (bstr a) (bstr b); binOp .add t (bstr a) (bstr b) : Sem Value).run P w = .ok (bstr (a ++ b)) w := ⟨rfl, trivial, run_cat h⟩
theorem seq_pv {P : Program} {t : Nat} {x y : Operand} {a b : List UInt8} : (Value.bool (decide (a = b))).oneCell' = true ∧ wfV (.bool (decide (a = b))) ∧ ∀ w, (do eqGuard .eql t x y (bstr a) (bstr b); binOp .eql t (bstr a) (bstr b) : Sem Value).run P w = .ok (.bool (decide (a = b))) w := ⟨rfl, trivial, run_seq⟩
theorem sne_pv {P : Program} {t : Nat} {x y : Operand} {a b : List UInt8} : (Value.bool (decide (¬ a = b))).oneCell' = true ∧ wfV (.bool (decide (¬ a = b))) ∧ ∀ w, (do eqGuard .neq t x y (bstr a) (bstr b); binOp .neq t (bstr a) (bstr b) : Sem Value).run P w = .ok (.bool (decide (¬ a = b))) w := ⟨rfl, trivial, run_sne⟩
theorem po_sidx {P : Program} {o : Oper} {t : Nat} {x y : Operand} {l : List UInt8} {k : IntKind} {i : Int} (ho : o.op = .index t x y) (ht : P.underlying t = some .string) (h0 : 0 ≤ i) (hi : i.toNat < l.length) : PureOp P o [bstr l, .int k i] (.int .u8 (l[i.toNat].toNat : Int)) := by
  refine ⟨rfl, ?_, fun f hf w => ?_⟩
  · show inK .u8 _
    have := l[i.toNat].toNat_lt
    simp only [inK]; omega
  · rw [ho] at hf
    simp only [Op.operands, List.map_cons, List.map_nil, List.cons.injEq, and_true] at hf
    simp [execOp, ho, hf.1, hf.2, Instr.index, asIntOf, run_underlying ht, h0, str_get, List.getElem?_eq_getElem hi]
theorem po_ssl {P : Program} {o : Oper} {t : Nat} {x y z : Operand} {l : List UInt8} {k k' : IntKind} {i j : Int} (ho : o.op = .slice t x (some y) (some z) none) (ht : P.underlying t = some .string) (h0 : 0 ≤ i) (h1 : i ≤ j) (h2 : j ≤ l.length) : PureOp P o [bstr l, .int k i, .int k' j] (bstr ((l.take j.toNat).drop i.toNat)) := by
  refine ⟨rfl, trivial, fun f hf w => ?_⟩
  rw [ho] at hf
  simp [Op.operands] at hf
  have e1 : ((j.toNat : Nat) : Int) = j := by omega
  simp [execOp, ho, hf, Instr.sliceAt, Instr.slice, Instr.sliceBounds, Instr.sliceBound, asIntOf, run_underlying ht, str_size, h0, h1, h2, e1, str_extract, show 0 ≤ j by omega]
theorem po_ssl1 {P : Program} {o : Oper} {t : Nat} {x y : Operand} {l : List UInt8} {k : IntKind} {i : Int} (ho : o.op = .slice t x (some y) none none) (ht : P.underlying t = some .string) (h0 : 0 ≤ i) (h1 : i ≤ l.length) : PureOp P o [bstr l, .int k i] (bstr (l.drop i.toNat)) := by
  refine ⟨rfl, trivial, fun f hf w => ?_⟩
  rw [ho] at hf
  simp [Op.operands] at hf
  have e1 : l.drop i.toNat = (l.take l.length).drop i.toNat := by rw [List.take_length]
  rw [e1]
  simp [execOp, ho, hf, Instr.sliceAt, Instr.slice, Instr.sliceBounds, Instr.sliceBound, asIntOf, run_underlying ht, str_size, h0, h1, str_extract]
theorem po_slen {P : Program} {o : Oper} {t : Nat} {x : Operand} {l : List UInt8} {c : Call} (ho : o.op = .call c) (hc : c.callee = .builtin .len) (ha : c.args = #[x]) (hat : c.argTypes = #[t]) (ht : P.underlying t = some .string) (hl : l.length ≤ 9223372036854775807) : PureOp P o [bstr l] (.int .i64 (l.length : Int)) := by
  refine ⟨rfl, ⟨by omega, by omega⟩, fun f hf w => ?_⟩
  rw [ho] at hf
  simp [Op.operands, Call.operands, hc, ha] at hf
  simp [execOp, ho, resolve, hc, ha, hat, invoke, builtin, hf, Builtin.len_, run_underlying ht, str_size, goInt]
theorem po_sget {P : Program} {o : Oper} {t : Nat} {x y : Operand} {l : List UInt8} {k : IntKind} {i : Int} {b : UInt8} (ho : o.op = .index t x y) (ht : P.underlying t = some .string) (h0 : 0 ≤ i) (hi : l[i.toNat]? = some b) : PureOp P o [bstr l, .int k i] (.int .u8 (b.toNat : Int)) := by
  obtain ⟨h, e⟩ := List.getElem?_eq_some_iff.1 hi
  have := po_sidx (P := P) (k := k) ho ht h0 h
  rw [e] at this; exact this
theorem zsl {o : Oper} {x : Operand} {c : Call} {l : List UInt8} {K : Value → Prop} (k : K (.int .i64 (l.length : Int))) (h : l.length ≤ 9223372036854775807 := by first | omega | (simp only [List.length_append, List.length_cons, List.length_nil]; omega)) (ho : o.op = .call c := by rfl) (hc : c.callee = .builtin .len := by rfl) (ha : c.args = #[x] := by rfl) (hat : c.argTypes = #[9] := by rfl) : ∃ v, PureOp Tryd.prog o [bstr l] v ∧ K v := ⟨_, po_slen ho hc ha hat Tryd.underlying9 h, k⟩
theorem zsg {o : Oper} {x y : Operand} {l : List UInt8} {kk : IntKind} {i : Int} {b : UInt8} {K : Value → Prop} (k : K (.int .u8 (b.toNat : Int))) (hi : l[i.toNat]? = some b := by assumption) (h0 : 0 ≤ i := by omega) (ho : o.op = .index 9 x y := by rfl) : ∃ v, PureOp Tryd.prog o [bstr l, .int kk i] v ∧ K v := ⟨_, po_sget ho Tryd.underlying9 h0 hi, k⟩
theorem zss {o : Oper} {x y z : Operand} {l : List UInt8} {kk kk' : IntKind} {i j : Int} {K : Value → Prop} (k : K (bstr ((l.take j.toNat).drop i.toNat))) (h0 : 0 ≤ i := by omega) (h1 : i ≤ j := by omega) (h2 : j ≤ l.length := by omega) (ho : o.op = .slice 9 x (some y) (some z) none := by rfl) : ∃ v, PureOp Tryd.prog o [bstr l, .int kk i, .int kk' j] v ∧ K v := ⟨_, po_ssl ho Tryd.underlying9 h0 h1 h2, k⟩
theorem zs1 {o : Oper} {x y : Operand} {l : List UInt8} {kk : IntKind} {i : Int} {K : Value → Prop} (k : K (bstr (l.drop i.toNat))) (h0 : 0 ≤ i := by omega) (h1 : i ≤ l.length := by omega) (ho : o.op = .slice 9 x (some y) none none := by rfl) : ∃ v, PureOp Tryd.prog o [bstr l, .int kk i] v ∧ K v := ⟨_, po_ssl1 ho Tryd.underlying9 h0 h1, k⟩
theorem zse {t : Nat} {x y : Operand} {a b : List UInt8} {K : Value → Prop} (k : K (.bool (decide (a = b)))) : ∃ v, (v.oneCell' = true ∧ wfV v ∧ ∀ w, (do eqGuard .eql t x y (bstr a) (bstr b); binOp .eql t (bstr a) (bstr b) : Sem Value).run Tryd.prog w = .ok v w) ∧ K v := ⟨_, seq_pv, k⟩
theorem zsn {t : Nat} {x y : Operand} {a b : List UInt8} {K : Value → Prop} (k : K (.bool (decide (¬ a = b)))) : ∃ v, (v.oneCell' = true ∧ wfV v ∧ ∀ w, (do eqGuard .neq t x y (bstr a) (bstr b); binOp .neq t (bstr a) (bstr b) : Sem Value).run Tryd.prog w = .ok v w) ∧ K v := ⟨_, sne_pv, k⟩
theorem zsc {t : Nat} {x y : Operand} {a b : List UInt8} {K : Value → Prop} (k : K (bstr (a ++ b))) (h : a.length + b.length ≤ 9223372036854775807 := by first | omega | (simp only [List.length_append, List.length_cons, List.length_nil]; omega)) : ∃ v, (v.oneCell' = true ∧ wfV v ∧ ∀ w, (do eqGuard .add t x y (bstr a) (bstr b); binOp .add t (bstr a) (bstr b) : Sem Value).run Tryd.prog w = .ok v w) ∧ K v := ⟨_, cat_pv h, k⟩
theorem zpa {c : Bool} {p q A B : Prop} [h : BC c p q] (k : A) (e : p := by first | assumption | with_reducible rfl) : br c A B := bc_t e k
theorem zqa {c : Bool} {p q A B : Prop} [h : BC c p q] (k : B) (e : q := by assumption) : br c A B := bc_f e k
end Go.Proofs.YtnalabphiaholaaDoor
