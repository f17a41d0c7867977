import Derived.Test.YtddbmpbihpkabaaGreatGLGPartsAK
import Derived.ChangeKeysEq
import Derived.Test.YtddbmpbihpkabaaGreatProg
import Derived.Test.YtddbmpbihpkabaaGreatChecked
import Derived.Test.YtddbmpbihpkabaaGreatGLGPartsAA
import Derived.Shelf.Small.Bits
import Derived.Shelf.Strconv.Itoa0
import Derived.Shelf.Bits.Mul64
import Derived.Laws.Externs
import Derived.Shelf.Spec.BitsCarry
import Derived.WalkKit
set_option linter.all false
namespace Go.Proofs.YtddbmpbihpkabaaGreat
open Go Go.RowKit
namespace Sx
def Ty:List (Nat × TD):=[(2,.int .i64),
 (3,.int .i64),
 (4,.bool),
 (5,.int .u8),
 (9,.sc (.v (.string "".toUTF8))),
 (12,.int .u64),
 (21,.int .i32),
 (22,.st 2 [.v (.int .i64 0),.v (.int .i64 0)] [(0,1,false),(1,1,false)]),
 (23,.st 2 [.v (.int .i64 0),.v (.int .i64 0)] [(0,1,false),(1,1,false)]),
 (24,.sl 3 true [.v (.int .i64 0),.v (.int .i64 0),.v (.int .i64 0)]),
 (25,.st 1 [.nil 3] [(0,1,false)]),
 (26,.st 1 [.nil 3] [(0,1,false)]),
 (27,.st 3 [.v (.int .i64 0),.v (.int .i64 0),.nil 3] [(0,2,true),(2,1,true)]),
 (28,.st 3 [.v (.int .i64 0),.v (.int .i64 0),.nil 3] [(0,2,true),(2,1,true)]),
 (29,.sl 7 true [.v (.int .u8 0),.v (.int .i64 0),.v (.int .i64 0),.v (.int .i64 0),.v (.int .i64 0),.v (.int .i64 0),.v (.int .i64 0)]),
 (30,.sl 6 true [.v (.int .i64 0),.v (.int .i64 0),.v (.int .i64 0),.v (.int .i64 0),.v (.int .i64 0),.nil 4]),
 (31,.st 5 [.v (.int .i64 0),.v (.int .i64 0),.nil 3,.nil 7,.nil 6] [(0,3,true),(3,1,false),(4,1,false)]),
 (32,.st 5 [.v (.int .i64 0),.v (.int .i64 0),.nil 3,.nil 7,.nil 6] [(0,3,true),(3,1,false),(4,1,false)]),
 (35,.int .i64),
 (48,.st 3 [.v (.int .i64 0),.v (.int .i64 0),.v (.int .i64 0)] [(0,1,false),(1,1,false),(2,1,false)]),
 (49,.st 3 [.v (.int .i64 0),.v (.int .i64 0),.v (.int .i64 0)] [(0,1,false),(1,1,false),(2,1,false)]),
 (50,.st 7 [.v (.int .u8 0),.v (.int .i64 0),.v (.int .i64 0),.v (.int .i64 0),.v (.int .i64 0),.v (.int .i64 0),.v (.int .i64 0)] [(0,1,false),(1,3,true),(4,1,false),(5,2,true)]),
 (51,.st 7 [.v (.int .u8 0),.v (.int .i64 0),.v (.int .i64 0),.v (.int .i64 0),.v (.int .i64 0),.v (.int .i64 0),.v (.int .i64 0)] [(0,1,false),(1,3,true),(4,1,false),(5,2,true)]),
 (52,.sl 4 true [.v (.int .i64 0),.v (.int .i64 0),.v (.int .i64 0),.v (.int .i64 0)]),
 (53,.st 6 [.v (.int .i64 0),.v (.int .i64 0),.v (.int .i64 0),.v (.int .i64 0),.v (.int .i64 0),.nil 4] [(0,1,false),(1,1,false),(2,1,false),(3,2,true),(5,1,false)]),
 (54,.st 6 [.v (.int .i64 0),.v (.int .i64 0),.v (.int .i64 0),.v (.int .i64 0),.v (.int .i64 0),.nil 4] [(0,1,false),(1,1,false),(2,1,false),(3,2,true),(5,1,false)]),
 (55,.st 4 [.v (.int .i64 0),.v (.int .i64 0),.v (.int .i64 0),.v (.int .i64 0)] [(0,2,true),(2,1,false),(3,1,false)]),
 (56,.st 4 [.v (.int .i64 0),.v (.int .i64 0),.v (.int .i64 0),.v (.int .i64 0)] [(0,2,true),(2,1,false),(3,1,false)]),
 (71,.sl 5 true [.v (.int .i64 0),.v (.int .i64 0),.nil 3,.nil 7,.nil 6]),
 (88,.sl 1 false [.nil 7]),
 (111,.sl 1 false [.v (.int .i64 0)]),
 (123,.sl 1 false [.v (.int .i64 0)]),
 (124,.int .u64),
 (135,.st 3 [.v (.bool false),.v (.int .u64 0),.v (.int .u64 0)] [(0,1,false),(1,1,false),(2,1,false)]),
 (136,.st 3 [.v (.bool false),.v (.int .u64 0),.v (.int .u64 0)] [(0,1,false),(1,1,false),(2,1,false)]),
 (143,.st 2 [.v (.int .i64 0),.v (.int .u64 0)] [(0,1,false),(1,1,false)]),
 (144,.st 2 [.v (.int .i64 0),.v (.int .u64 0)] [(0,1,false),(1,1,false)]),
 (146,.ar 2 [.v (.int .i64 0),.v (.int .i64 0)] 2 1 false),
 (147,.ar 4 [.v (.int .i64 0),.v (.int .i64 0),.v (.int .i64 0),.v (.int .i64 0)] 2 2 true),
 (151,.sl 2 true [.v (.int .i64 0),.v (.int .i64 0)]),
 (185,.int .u64),
 (187,.st 3 [.v (.bool false),.v (.int .u64 0),.v (.int .u64 0)] [(0,1,false),(1,1,false),(2,1,false)]),
 (188,.st 3 [.v (.bool false),.v (.int .u64 0),.v (.int .u64 0)] [(0,1,false),(1,1,false),(2,1,false)]),
 (219,.int .i64),
 (226,.int .u32),
 (233,.int .u64),
 (246,.st 4 [.v (.pointer none),.v (.pointer none),.v (.pointer none),.v (.string "".toUTF8)] [(0,1,false),(1,1,false),(2,1,false),(3,1,false)])]
theorem ty_all:TysOK Tryz.prog Ty:=⟨⟨Tryz.sizeOf2,Tryz.isAgg2,⟨_,Tryz.zeroValue2,fun _ _=>⟨.v _ rfl (wfB_iff rfl),trivial⟩⟩,Tryz.underlying2⟩,
 ⟨Tryz.sizeOf3,Tryz.isAgg3,⟨_,Tryz.zeroValue3,fun _ _=>⟨.v _ rfl (wfB_iff rfl),trivial⟩⟩,Tryz.underlying3⟩,
 ⟨Tryz.sizeOf4,Tryz.isAgg4,⟨_,Tryz.zeroValue4,fun _ _=>⟨.v _ rfl (wfB_iff rfl),trivial⟩⟩,Tryz.underlying4⟩,
 ⟨Tryz.sizeOf5,Tryz.isAgg5,⟨_,Tryz.zeroValue5,fun _ _=>⟨.v _ rfl (wfB_iff rfl),trivial⟩⟩,Tryz.underlying5⟩,
 ⟨Tryz.sizeOf9,Tryz.isAgg9,⟨_,Tryz.zeroValue9,fun _ _=>⟨.v _ rfl (wfB_iff rfl),trivial⟩⟩,trivial⟩,
 ⟨Tryz.sizeOf12,Tryz.isAgg12,⟨_,Tryz.zeroValue12,fun _ _=>⟨.v _ rfl (wfB_iff rfl),trivial⟩⟩,Tryz.underlying12⟩,
 ⟨Tryz.sizeOf21,Tryz.isAgg21,⟨_,Tryz.zeroValue21,fun _ _=>⟨.v _ rfl (wfB_iff rfl),trivial⟩⟩,Tryz.underlying21⟩,
 ⟨Tryz.sizeOf22,Tryz.isAgg22,⟨_,Tryz.zeroValue22,fun _ _=>⟨.v _ rfl (wfB_iff rfl),.v _ rfl (wfB_iff rfl),trivial⟩⟩,st_ty Tryz.underlying22 rfl ⟨rfl,Tryz.sizeOf2,Tryz.isAgg2,rfl,Tryz.sizeOf2,Tryz.isAgg2,trivial⟩⟩,
 ⟨Tryz.sizeOf23,Tryz.isAgg23,⟨_,Tryz.zeroValue23,fun _ _=>⟨.v _ rfl (wfB_iff rfl),.v _ rfl (wfB_iff rfl),trivial⟩⟩,st_ty Tryz.underlying23 rfl ⟨rfl,Tryz.sizeOf2,Tryz.isAgg2,rfl,Tryz.sizeOf2,Tryz.isAgg2,trivial⟩⟩,
 ⟨Tryz.sizeOf24,Tryz.isAgg24,⟨_,Tryz.zeroValue24,fun _ _=>⟨.nl _,trivial⟩⟩,sl_ty Tryz.underlying24 Tryz.sizeOf49 Tryz.isAgg49 Tryz.zeroValue49 rfl (show Tryz.prog.info? 49=some Tryz.t49 by kernel_rfl) rfl rfl rfl (fun _ _=>⟨.v _ rfl (wfB_iff rfl),.v _ rfl (wfB_iff rfl),.v _ rfl (wfB_iff rfl),trivial⟩) rfl⟩,
 ⟨Tryz.sizeOf25,Tryz.isAgg25,⟨_,Tryz.zeroValue25,fun _ _=>⟨.nl _,trivial⟩⟩,st_ty Tryz.underlying25 rfl ⟨rfl,Tryz.sizeOf24,Tryz.isAgg24,trivial⟩⟩,
 ⟨Tryz.sizeOf26,Tryz.isAgg26,⟨_,Tryz.zeroValue26,fun _ _=>⟨.nl _,trivial⟩⟩,st_ty Tryz.underlying26 rfl ⟨rfl,Tryz.sizeOf24,Tryz.isAgg24,trivial⟩⟩,
 ⟨Tryz.sizeOf27,Tryz.isAgg27,⟨_,Tryz.zeroValue27,fun _ _=>⟨.v _ rfl (wfB_iff rfl),.v _ rfl (wfB_iff rfl),.nl _,trivial⟩⟩,st_ty Tryz.underlying27 rfl ⟨rfl,Tryz.sizeOf23,Tryz.isAgg23,rfl,Tryz.sizeOf26,Tryz.isAgg26,trivial⟩⟩,
 ⟨Tryz.sizeOf28,Tryz.isAgg28,⟨_,Tryz.zeroValue28,fun _ _=>⟨.v _ rfl (wfB_iff rfl),.v _ rfl (wfB_iff rfl),.nl _,trivial⟩⟩,st_ty Tryz.underlying28 rfl ⟨rfl,Tryz.sizeOf23,Tryz.isAgg23,rfl,Tryz.sizeOf26,Tryz.isAgg26,trivial⟩⟩,
 ⟨Tryz.sizeOf29,Tryz.isAgg29,⟨_,Tryz.zeroValue29,fun _ _=>⟨.nl _,trivial⟩⟩,sl_ty Tryz.underlying29 Tryz.sizeOf51 Tryz.isAgg51 Tryz.zeroValue51 rfl (show Tryz.prog.info? 51=some Tryz.t51 by kernel_rfl) rfl rfl rfl (fun _ _=>⟨.v _ rfl (wfB_iff rfl),.v _ rfl (wfB_iff rfl),.v _ rfl (wfB_iff rfl),.v _ rfl (wfB_iff rfl),.v _ rfl (wfB_iff rfl),.v _ rfl (wfB_iff rfl),.v _ rfl (wfB_iff rfl),trivial⟩) rfl⟩,
 ⟨Tryz.sizeOf30,Tryz.isAgg30,⟨_,Tryz.zeroValue30,fun _ _=>⟨.nl _,trivial⟩⟩,sl_ty Tryz.underlying30 Tryz.sizeOf54 Tryz.isAgg54 Tryz.zeroValue54 rfl (show Tryz.prog.info? 54=some Tryz.t54 by kernel_rfl) rfl rfl rfl (fun _ _=>⟨.v _ rfl (wfB_iff rfl),.v _ rfl (wfB_iff rfl),.v _ rfl (wfB_iff rfl),.v _ rfl (wfB_iff rfl),.v _ rfl (wfB_iff rfl),.nl _,trivial⟩) rfl⟩,
 ⟨Tryz.sizeOf31,Tryz.isAgg31,⟨_,Tryz.zeroValue31,fun _ _=>⟨.v _ rfl (wfB_iff rfl),.v _ rfl (wfB_iff rfl),.nl _,.nl _,.nl _,trivial⟩⟩,st_ty Tryz.underlying31 rfl ⟨rfl,Tryz.sizeOf28,Tryz.isAgg28,rfl,Tryz.sizeOf29,Tryz.isAgg29,rfl,Tryz.sizeOf30,Tryz.isAgg30,trivial⟩⟩,
 ⟨Tryz.sizeOf32,Tryz.isAgg32,⟨_,Tryz.zeroValue32,fun _ _=>⟨.v _ rfl (wfB_iff rfl),.v _ rfl (wfB_iff rfl),.nl _,.nl _,.nl _,trivial⟩⟩,st_ty Tryz.underlying32 rfl ⟨rfl,Tryz.sizeOf28,Tryz.isAgg28,rfl,Tryz.sizeOf29,Tryz.isAgg29,rfl,Tryz.sizeOf30,Tryz.isAgg30,trivial⟩⟩,
 ⟨Tryz.sizeOf35,Tryz.isAgg35,⟨_,Tryz.zeroValue35,fun _ _=>⟨.v _ rfl (wfB_iff rfl),trivial⟩⟩,Tryz.underlying35⟩,
 ⟨Tryz.sizeOf48,Tryz.isAgg48,⟨_,Tryz.zeroValue48,fun _ _=>⟨.v _ rfl (wfB_iff rfl),.v _ rfl (wfB_iff rfl),.v _ rfl (wfB_iff rfl),trivial⟩⟩,st_ty Tryz.underlying48 rfl ⟨rfl,Tryz.sizeOf3,Tryz.isAgg3,rfl,Tryz.sizeOf2,Tryz.isAgg2,rfl,Tryz.sizeOf2,Tryz.isAgg2,trivial⟩⟩,
 ⟨Tryz.sizeOf49,Tryz.isAgg49,⟨_,Tryz.zeroValue49,fun _ _=>⟨.v _ rfl (wfB_iff rfl),.v _ rfl (wfB_iff rfl),.v _ rfl (wfB_iff rfl),trivial⟩⟩,st_ty Tryz.underlying49 rfl ⟨rfl,Tryz.sizeOf3,Tryz.isAgg3,rfl,Tryz.sizeOf2,Tryz.isAgg2,rfl,Tryz.sizeOf2,Tryz.isAgg2,trivial⟩⟩,
 ⟨Tryz.sizeOf50,Tryz.isAgg50,⟨_,Tryz.zeroValue50,fun _ _=>⟨.v _ rfl (wfB_iff rfl),.v _ rfl (wfB_iff rfl),.v _ rfl (wfB_iff rfl),.v _ rfl (wfB_iff rfl),.v _ rfl (wfB_iff rfl),.v _ rfl (wfB_iff rfl),.v _ rfl (wfB_iff rfl),trivial⟩⟩,st_ty Tryz.underlying50 rfl ⟨rfl,Tryz.sizeOf5,Tryz.isAgg5,rfl,Tryz.sizeOf49,Tryz.isAgg49,rfl,Tryz.sizeOf3,Tryz.isAgg3,rfl,Tryz.sizeOf23,Tryz.isAgg23,trivial⟩⟩,
 ⟨Tryz.sizeOf51,Tryz.isAgg51,⟨_,Tryz.zeroValue51,fun _ _=>⟨.v _ rfl (wfB_iff rfl),.v _ rfl (wfB_iff rfl),.v _ rfl (wfB_iff rfl),.v _ rfl (wfB_iff rfl),.v _ rfl (wfB_iff rfl),.v _ rfl (wfB_iff rfl),.v _ rfl (wfB_iff rfl),trivial⟩⟩,st_ty Tryz.underlying51 rfl ⟨rfl,Tryz.sizeOf5,Tryz.isAgg5,rfl,Tryz.sizeOf49,Tryz.isAgg49,rfl,Tryz.sizeOf3,Tryz.isAgg3,rfl,Tryz.sizeOf23,Tryz.isAgg23,trivial⟩⟩,
 ⟨Tryz.sizeOf52,Tryz.isAgg52,⟨_,Tryz.zeroValue52,fun _ _=>⟨.nl _,trivial⟩⟩,sl_ty Tryz.underlying52 Tryz.sizeOf56 Tryz.isAgg56 Tryz.zeroValue56 rfl (show Tryz.prog.info? 56=some Tryz.t56 by kernel_rfl) rfl rfl rfl (fun _ _=>⟨.v _ rfl (wfB_iff rfl),.v _ rfl (wfB_iff rfl),.v _ rfl (wfB_iff rfl),.v _ rfl (wfB_iff rfl),trivial⟩) rfl⟩,
 ⟨Tryz.sizeOf53,Tryz.isAgg53,⟨_,Tryz.zeroValue53,fun _ _=>⟨.v _ rfl (wfB_iff rfl),.v _ rfl (wfB_iff rfl),.v _ rfl (wfB_iff rfl),.v _ rfl (wfB_iff rfl),.v _ rfl (wfB_iff rfl),.nl _,trivial⟩⟩,st_ty Tryz.underlying53 rfl ⟨rfl,Tryz.sizeOf35,Tryz.isAgg35,rfl,Tryz.sizeOf3,Tryz.isAgg3,rfl,Tryz.sizeOf3,Tryz.isAgg3,rfl,Tryz.sizeOf23,Tryz.isAgg23,rfl,Tryz.sizeOf52,Tryz.isAgg52,trivial⟩⟩,
 ⟨Tryz.sizeOf54,Tryz.isAgg54,⟨_,Tryz.zeroValue54,fun _ _=>⟨.v _ rfl (wfB_iff rfl),.v _ rfl (wfB_iff rfl),.v _ rfl (wfB_iff rfl),.v _ rfl (wfB_iff rfl),.v _ rfl (wfB_iff rfl),.nl _,trivial⟩⟩,st_ty Tryz.underlying54 rfl ⟨rfl,Tryz.sizeOf35,Tryz.isAgg35,rfl,Tryz.sizeOf3,Tryz.isAgg3,rfl,Tryz.sizeOf3,Tryz.isAgg3,rfl,Tryz.sizeOf23,Tryz.isAgg23,rfl,Tryz.sizeOf52,Tryz.isAgg52,trivial⟩⟩,
 ⟨Tryz.sizeOf55,Tryz.isAgg55,⟨_,Tryz.zeroValue55,fun _ _=>⟨.v _ rfl (wfB_iff rfl),.v _ rfl (wfB_iff rfl),.v _ rfl (wfB_iff rfl),.v _ rfl (wfB_iff rfl),trivial⟩⟩,st_ty Tryz.underlying55 rfl ⟨rfl,Tryz.sizeOf23,Tryz.isAgg23,rfl,Tryz.sizeOf3,Tryz.isAgg3,rfl,Tryz.sizeOf3,Tryz.isAgg3,trivial⟩⟩,
 ⟨Tryz.sizeOf56,Tryz.isAgg56,⟨_,Tryz.zeroValue56,fun _ _=>⟨.v _ rfl (wfB_iff rfl),.v _ rfl (wfB_iff rfl),.v _ rfl (wfB_iff rfl),.v _ rfl (wfB_iff rfl),trivial⟩⟩,st_ty Tryz.underlying56 rfl ⟨rfl,Tryz.sizeOf23,Tryz.isAgg23,rfl,Tryz.sizeOf3,Tryz.isAgg3,rfl,Tryz.sizeOf3,Tryz.isAgg3,trivial⟩⟩,
 ⟨Tryz.sizeOf71,Tryz.isAgg71,⟨_,Tryz.zeroValue71,fun _ _=>⟨.nl _,trivial⟩⟩,sl_ty Tryz.underlying71 Tryz.sizeOf32 Tryz.isAgg32 Tryz.zeroValue32 rfl (show Tryz.prog.info? 32=some Tryz.t32 by kernel_rfl) rfl rfl rfl (fun _ _=>⟨.v _ rfl (wfB_iff rfl),.v _ rfl (wfB_iff rfl),.nl _,.nl _,.nl _,trivial⟩) rfl⟩,
 ⟨Tryz.sizeOf88,Tryz.isAgg88,⟨_,Tryz.zeroValue88,fun _ _=>⟨.nl _,trivial⟩⟩,sl_ty Tryz.underlying88 Tryz.sizeOf29 Tryz.isAgg29 Tryz.zeroValue29 rfl (show Tryz.prog.info? 29=some Tryz.t29 by kernel_rfl) rfl rfl rfl (fun _ _=>⟨.nl _,trivial⟩) rfl⟩,
 ⟨Tryz.sizeOf111,Tryz.isAgg111,⟨_,Tryz.zeroValue111,fun _ _=>⟨.nl _,trivial⟩⟩,sl_ty Tryz.underlying111 Tryz.sizeOf3 Tryz.isAgg3 Tryz.zeroValue3 rfl (show Tryz.prog.info? 3=some Tryz.t3 by kernel_rfl) rfl rfl rfl (fun _ _=>⟨.v _ rfl (wfB_iff rfl),trivial⟩) rfl⟩,
 ⟨Tryz.sizeOf123,Tryz.isAgg123,⟨_,Tryz.zeroValue123,fun _ _=>⟨.nl _,trivial⟩⟩,sl_ty Tryz.underlying123 Tryz.sizeOf35 Tryz.isAgg35 Tryz.zeroValue35 rfl (show Tryz.prog.info? 35=some Tryz.t35 by kernel_rfl) rfl rfl rfl (fun _ _=>⟨.v _ rfl (wfB_iff rfl),trivial⟩) rfl⟩,
 ⟨Tryz.sizeOf124,Tryz.isAgg124,⟨_,Tryz.zeroValue124,fun _ _=>⟨.v _ rfl (wfB_iff rfl),trivial⟩⟩,Tryz.underlying124⟩,
 ⟨Tryz.sizeOf135,Tryz.isAgg135,⟨_,Tryz.zeroValue135,fun _ _=>⟨.v _ rfl (wfB_iff rfl),.v _ rfl (wfB_iff rfl),.v _ rfl (wfB_iff rfl),trivial⟩⟩,st_ty Tryz.underlying135 rfl ⟨rfl,Tryz.sizeOf4,Tryz.isAgg4,rfl,Tryz.sizeOf124,Tryz.isAgg124,rfl,Tryz.sizeOf124,Tryz.isAgg124,trivial⟩⟩,
 ⟨Tryz.sizeOf136,Tryz.isAgg136,⟨_,Tryz.zeroValue136,fun _ _=>⟨.v _ rfl (wfB_iff rfl),.v _ rfl (wfB_iff rfl),.v _ rfl (wfB_iff rfl),trivial⟩⟩,st_ty Tryz.underlying136 rfl ⟨rfl,Tryz.sizeOf4,Tryz.isAgg4,rfl,Tryz.sizeOf124,Tryz.isAgg124,rfl,Tryz.sizeOf124,Tryz.isAgg124,trivial⟩⟩,
 ⟨Tryz.sizeOf143,Tryz.isAgg143,⟨_,Tryz.zeroValue143,fun _ _=>⟨.v _ rfl (wfB_iff rfl),.v _ rfl (wfB_iff rfl),trivial⟩⟩,st_ty Tryz.underlying143 rfl ⟨rfl,Tryz.sizeOf2,Tryz.isAgg2,rfl,Tryz.sizeOf124,Tryz.isAgg124,trivial⟩⟩,
 ⟨Tryz.sizeOf144,Tryz.isAgg144,⟨_,Tryz.zeroValue144,fun _ _=>⟨.v _ rfl (wfB_iff rfl),.v _ rfl (wfB_iff rfl),trivial⟩⟩,st_ty Tryz.underlying144 rfl ⟨rfl,Tryz.sizeOf2,Tryz.isAgg2,rfl,Tryz.sizeOf124,Tryz.isAgg124,trivial⟩⟩,
 ⟨Tryz.sizeOf146,Tryz.isAgg146,⟨_,Tryz.zeroValue146,fun _ _=>⟨.v _ rfl (wfB_iff rfl),.v _ rfl (wfB_iff rfl),trivial⟩⟩,⟨_,Tryz.underlying146,Tryz.sizeOf2,Tryz.isAgg2⟩⟩,
 ⟨Tryz.sizeOf147,Tryz.isAgg147,⟨_,Tryz.zeroValue147,fun _ _=>⟨.v _ rfl (wfB_iff rfl),.v _ rfl (wfB_iff rfl),.v _ rfl (wfB_iff rfl),.v _ rfl (wfB_iff rfl),trivial⟩⟩,⟨_,Tryz.underlying147,Tryz.sizeOf146,Tryz.isAgg146⟩⟩,
 ⟨Tryz.sizeOf151,Tryz.isAgg151,⟨_,Tryz.zeroValue151,fun _ _=>⟨.nl _,trivial⟩⟩,sl_ty Tryz.underlying151 Tryz.sizeOf23 Tryz.isAgg23 Tryz.zeroValue23 rfl (show Tryz.prog.info? 23=some Tryz.t23 by kernel_rfl) rfl rfl rfl (fun _ _=>⟨.v _ rfl (wfB_iff rfl),.v _ rfl (wfB_iff rfl),trivial⟩) rfl⟩,
 ⟨Tryz.sizeOf185,Tryz.isAgg185,⟨_,Tryz.zeroValue185,fun _ _=>⟨.v _ rfl (wfB_iff rfl),trivial⟩⟩,Tryz.underlying185⟩,
 ⟨Tryz.sizeOf187,Tryz.isAgg187,⟨_,Tryz.zeroValue187,fun _ _=>⟨.v _ rfl (wfB_iff rfl),.v _ rfl (wfB_iff rfl),.v _ rfl (wfB_iff rfl),trivial⟩⟩,st_ty Tryz.underlying187 rfl ⟨rfl,Tryz.sizeOf4,Tryz.isAgg4,rfl,Tryz.sizeOf124,Tryz.isAgg124,rfl,Tryz.sizeOf124,Tryz.isAgg124,trivial⟩⟩,
 ⟨Tryz.sizeOf188,Tryz.isAgg188,⟨_,Tryz.zeroValue188,fun _ _=>⟨.v _ rfl (wfB_iff rfl),.v _ rfl (wfB_iff rfl),.v _ rfl (wfB_iff rfl),trivial⟩⟩,st_ty Tryz.underlying188 rfl ⟨rfl,Tryz.sizeOf4,Tryz.isAgg4,rfl,Tryz.sizeOf124,Tryz.isAgg124,rfl,Tryz.sizeOf124,Tryz.isAgg124,trivial⟩⟩,
 ⟨Tryz.sizeOf219,Tryz.isAgg219,⟨_,Tryz.zeroValue219,fun _ _=>⟨.v _ rfl (wfB_iff rfl),trivial⟩⟩,Tryz.underlying219⟩,
 ⟨Tryz.sizeOf226,Tryz.isAgg226,⟨_,Tryz.zeroValue226,fun _ _=>⟨.v _ rfl (wfB_iff rfl),trivial⟩⟩,Tryz.underlying226⟩,
 ⟨Tryz.sizeOf233,Tryz.isAgg233,⟨_,Tryz.zeroValue233,fun _ _=>⟨.v _ rfl (wfB_iff rfl),trivial⟩⟩,Tryz.underlying233⟩,
 ⟨Tryz.sizeOf246,Tryz.isAgg246,⟨_,Tryz.zeroValue246,fun _ _=>⟨.v _ rfl (wfB_iff rfl),.v _ rfl (wfB_iff rfl),.v _ rfl (wfB_iff rfl),.v _ rfl (wfB_iff rfl),trivial⟩⟩,st_ty Tryz.underlying246 rfl ⟨rfl,Tryz.sizeOf17,Tryz.isAgg17,rfl,Tryz.sizeOf17,Tryz.isAgg17,rfl,Tryz.sizeOf17,Tryz.isAgg17,rfl,Tryz.sizeOf9,Tryz.isAgg9,trivial⟩⟩,trivial⟩
theorem ty_okK (K mu co me:List Nat):ΓOK Tryz.prog ⟨Ty,K,mu,co,me,false,[],fun _=>False⟩:=tys_ok ty_all
theorem ty_okD:ΓOK Tryz.prog ⟨Ty,[],[],[],[],true,[],fun _=>False⟩:=tys_ok ty_all
theorem ty_ok:ΓOK Tryz.prog ⟨Ty,[],[],[],[],false,[],fun _=>False⟩:=tys_ok ty_all
theorem eqv23 (a0 b0:Int) (a1 b1:Int) (x y:Operand) (w:World):(do eqGuard .eql 23 x y (.agg #[.int .i64 a0,.int .i64 a1]) (.agg #[.int .i64 b0,.int .i64 b1]);binOp .eql 23 (.agg #[.int .i64 a0,.int .i64 a1]) (.agg #[.int .i64 b0,.int .i64 b1]):Sem Value).run Tryz.prog w=.ok (.bool (decide (a0=b0∧a1=b1))) w:=by
 by_cases h0:a0=b0
 ·skip
  by_cases h1:a1=b1
  ·skip
   simp [go_sem,eqGuard,binOp,Op.equal,Op.maxDepth,h0,h1]
  ·simp [go_sem,eqGuard,binOp,Op.equal,Op.maxDepth,h0,h1]
 ·simp [go_sem,eqGuard,binOp,Op.equal,Op.maxDepth,h0]
theorem nev23 (a0 b0:Int) (a1 b1:Int) (x y:Operand) (w:World):(do eqGuard .neq 23 x y (.agg #[.int .i64 a0,.int .i64 a1]) (.agg #[.int .i64 b0,.int .i64 b1]);binOp .neq 23 (.agg #[.int .i64 a0,.int .i64 a1]) (.agg #[.int .i64 b0,.int .i64 b1]):Sem Value).run Tryz.prog w=.ok (.bool (decide (¬ (a0=b0∧a1=b1)))) w:=by
 by_cases h0:a0=b0
 ·skip
  by_cases h1:a1=b1
  ·skip
   simp [go_sem,eqGuard,binOp,Op.equal,Op.maxDepth,h0,h1]
  ·simp [go_sem,eqGuard,binOp,Op.equal,Op.maxDepth,h0,h1]
 ·simp [go_sem,eqGuard,binOp,Op.equal,Op.maxDepth,h0]
theorem nev49 (a0 b0:Int) (a1 b1:Int) (a2 b2:Int) (x y:Operand) (w:World):(do eqGuard .neq 49 x y (.agg #[.int .i64 a0,.int .i64 a1,.int .i64 a2]) (.agg #[.int .i64 b0,.int .i64 b1,.int .i64 b2]);binOp .neq 49 (.agg #[.int .i64 a0,.int .i64 a1,.int .i64 a2]) (.agg #[.int .i64 b0,.int .i64 b1,.int .i64 b2]):Sem Value).run Tryz.prog w=.ok (.bool (decide (¬ (a0=b0∧a1=b1∧a2=b2)))) w:=by
 by_cases h0:a0=b0
 ·skip
  by_cases h1:a1=b1
  ·skip
   by_cases h2:a2=b2
   ·skip
    simp [go_sem,eqGuard,binOp,Op.equal,Op.maxDepth,h0,h1,h2]
   ·simp [go_sem,eqGuard,binOp,Op.equal,Op.maxDepth,h0,h1,h2]
  ·simp [go_sem,eqGuard,binOp,Op.equal,Op.maxDepth,h0,h1]
 ·simp [go_sem,eqGuard,binOp,Op.equal,Op.maxDepth,h0]
theorem eqv51 (a0 b0:Int) (a1 b1:Int) (a2 b2:Int) (a3 b3:Int) (a4 b4:Int) (a5 b5:Int) (a6 b6:Int) (x y:Operand) (w:World):(do eqGuard .eql 51 x y (.agg #[.int .u8 a0,.int .i64 a1,.int .i64 a2,.int .i64 a3,.int .i64 a4,.int .i64 a5,.int .i64 a6]) (.agg #[.int .u8 b0,.int .i64 b1,.int .i64 b2,.int .i64 b3,.int .i64 b4,.int .i64 b5,.int .i64 b6]);binOp .eql 51 (.agg #[.int .u8 a0,.int .i64 a1,.int .i64 a2,.int .i64 a3,.int .i64 a4,.int .i64 a5,.int .i64 a6]) (.agg #[.int .u8 b0,.int .i64 b1,.int .i64 b2,.int .i64 b3,.int .i64 b4,.int .i64 b5,.int .i64 b6]):Sem Value).run Tryz.prog w=.ok (.bool (decide (a0=b0∧a1=b1∧a2=b2∧a3=b3∧a4=b4∧a5=b5∧a6=b6))) w:=by
 by_cases h0:a0=b0
 ·skip
  by_cases h1:a1=b1
  ·skip
   by_cases h2:a2=b2
   ·skip
    by_cases h3:a3=b3
    ·skip
     by_cases h4:a4=b4
     ·skip
      by_cases h5:a5=b5
      ·skip
       by_cases h6:a6=b6
       ·skip
        simp [go_sem,eqGuard,binOp,Op.equal,Op.maxDepth,h0,h1,h2,h3,h4,h5,h6]
       ·simp [go_sem,eqGuard,binOp,Op.equal,Op.maxDepth,h0,h1,h2,h3,h4,h5,h6]
      ·simp [go_sem,eqGuard,binOp,Op.equal,Op.maxDepth,h0,h1,h2,h3,h4,h5]
     ·simp [go_sem,eqGuard,binOp,Op.equal,Op.maxDepth,h0,h1,h2,h3,h4]
    ·simp [go_sem,eqGuard,binOp,Op.equal,Op.maxDepth,h0,h1,h2,h3]
   ·simp [go_sem,eqGuard,binOp,Op.equal,Op.maxDepth,h0,h1,h2]
  ·simp [go_sem,eqGuard,binOp,Op.equal,Op.maxDepth,h0,h1]
 ·simp [go_sem,eqGuard,binOp,Op.equal,Op.maxDepth,h0]
theorem nev51 (a0 b0:Int) (a1 b1:Int) (a2 b2:Int) (a3 b3:Int) (a4 b4:Int) (a5 b5:Int) (a6 b6:Int) (x y:Operand) (w:World):(do eqGuard .neq 51 x y (.agg #[.int .u8 a0,.int .i64 a1,.int .i64 a2,.int .i64 a3,.int .i64 a4,.int .i64 a5,.int .i64 a6]) (.agg #[.int .u8 b0,.int .i64 b1,.int .i64 b2,.int .i64 b3,.int .i64 b4,.int .i64 b5,.int .i64 b6]);binOp .neq 51 (.agg #[.int .u8 a0,.int .i64 a1,.int .i64 a2,.int .i64 a3,.int .i64 a4,.int .i64 a5,.int .i64 a6]) (.agg #[.int .u8 b0,.int .i64 b1,.int .i64 b2,.int .i64 b3,.int .i64 b4,.int .i64 b5,.int .i64 b6]):Sem Value).run Tryz.prog w=.ok (.bool (decide (¬ (a0=b0∧a1=b1∧a2=b2∧a3=b3∧a4=b4∧a5=b5∧a6=b6)))) w:=by
 by_cases h0:a0=b0
 ·skip
  by_cases h1:a1=b1
  ·skip
   by_cases h2:a2=b2
   ·skip
    by_cases h3:a3=b3
    ·skip
     by_cases h4:a4=b4
     ·skip
      by_cases h5:a5=b5
      ·skip
       by_cases h6:a6=b6
       ·skip
        simp [go_sem,eqGuard,binOp,Op.equal,Op.maxDepth,h0,h1,h2,h3,h4,h5,h6]
       ·simp [go_sem,eqGuard,binOp,Op.equal,Op.maxDepth,h0,h1,h2,h3,h4,h5,h6]
      ·simp [go_sem,eqGuard,binOp,Op.equal,Op.maxDepth,h0,h1,h2,h3,h4,h5]
     ·simp [go_sem,eqGuard,binOp,Op.equal,Op.maxDepth,h0,h1,h2,h3,h4]
    ·simp [go_sem,eqGuard,binOp,Op.equal,Op.maxDepth,h0,h1,h2,h3]
   ·simp [go_sem,eqGuard,binOp,Op.equal,Op.maxDepth,h0,h1,h2]
  ·simp [go_sem,eqGuard,binOp,Op.equal,Op.maxDepth,h0,h1]
 ·simp [go_sem,eqGuard,binOp,Op.equal,Op.maxDepth,h0]
theorem nev56 (a0 b0:Int) (a1 b1:Int) (a2 b2:Int) (a3 b3:Int) (x y:Operand) (w:World):(do eqGuard .neq 56 x y (.agg #[.int .i64 a0,.int .i64 a1,.int .i64 a2,.int .i64 a3]) (.agg #[.int .i64 b0,.int .i64 b1,.int .i64 b2,.int .i64 b3]);binOp .neq 56 (.agg #[.int .i64 a0,.int .i64 a1,.int .i64 a2,.int .i64 a3]) (.agg #[.int .i64 b0,.int .i64 b1,.int .i64 b2,.int .i64 b3]):Sem Value).run Tryz.prog w=.ok (.bool (decide (¬ (a0=b0∧a1=b1∧a2=b2∧a3=b3)))) w:=by
 by_cases h0:a0=b0
 ·skip
  by_cases h1:a1=b1
  ·skip
   by_cases h2:a2=b2
   ·skip
    by_cases h3:a3=b3
    ·skip
     simp [go_sem,eqGuard,binOp,Op.equal,Op.maxDepth,h0,h1,h2,h3]
    ·simp [go_sem,eqGuard,binOp,Op.equal,Op.maxDepth,h0,h1,h2,h3]
   ·simp [go_sem,eqGuard,binOp,Op.equal,Op.maxDepth,h0,h1,h2]
  ·simp [go_sem,eqGuard,binOp,Op.equal,Op.maxDepth,h0,h1]
 ·simp [go_sem,eqGuard,binOp,Op.equal,Op.maxDepth,h0]
theorem nev144 (a0 b0:Int) (a1 b1:Int) (x y:Operand) (w:World):(do eqGuard .neq 144 x y (.agg #[.int .i64 a0,.int .u64 a1]) (.agg #[.int .i64 b0,.int .u64 b1]);binOp .neq 144 (.agg #[.int .i64 a0,.int .u64 a1]) (.agg #[.int .i64 b0,.int .u64 b1]):Sem Value).run Tryz.prog w=.ok (.bool (decide (¬ (a0=b0∧a1=b1)))) w:=by
 by_cases h0:a0=b0
 ·skip
  by_cases h1:a1=b1
  ·skip
   simp [go_sem,eqGuard,binOp,Op.equal,Op.maxDepth,h0,h1]
  ·simp [go_sem,eqGuard,binOp,Op.equal,Op.maxDepth,h0,h1]
 ·simp [go_sem,eqGuard,binOp,Op.equal,Op.maxDepth,h0]
end Sx
end Go.Proofs.YtddbmpbihpkabaaGreat

namespace Go.Proofs.YtddbmpbihpkabaaGreat
open Go.RowKit Go.Sort
theorem gcd_any (a b:Nat) (w:World) :
  Calls Tryz.prog 103 #[.int .u64 a,.int .u64 b] w fun e w'=>e=.returned (.int .u64 (Nat.gcd a b:Nat))∧Below w.heap.size w w':=by
 go_enter Tryz.func103,Tryz.ntmps103
 go_wp2
 go_loopw [0,1] (fun x y wr=>∃ n m:Nat,x=.int .u64 n∧y=.int .u64 m∧Hid (Nat.gcd n m=Nat.gcd a b)∧Below w.heap.size w wr) (fun _ y _=>(intOf y).toNat)
 case atStart=>exact ⟨a,b,rfl,rfl,Lib.hid rfl,Below.refl _ _⟩
 case round =>
  obtain ⟨n,m,rfl,rfl,hg,hb⟩:=hrel
  by_cases h0:0<m
  ·go_wp2
   go_quiet (fail)
   go_wp2
   have hlt:=Nat.mod_lt n h0
   refine ⟨⟨m,n % m,rfl,by simp,Lib.hid ?_,below_drewN hb _⟩,?_⟩
   ·rw [← hg.out,Nat.gcd_comm n m,Nat.gcd_rec m n,Nat.gcd_comm]
   ·show ((n:Int) % (m:Int)).toNat<((m:Int)).toNat
    omega
  ·go_wp2
   go_ret
   refine ⟨ret_int ?_,hb⟩
   rw [← hg.out]
   obtain rfl:m=0:=by omega
   simp
theorem abs_any (n:Int) (w:World) (h0 : -9223372036854775808≤n) (h1:n≤9223372036854775807) :
  Calls Tryz.prog 73 #[.int .i64 n] w fun e w'=>e=.returned (.int .u64 (n.natAbs:Nat))∧Below w.heap.size w w':=by
 have HW:Hid (n<0→IntKind.u64.wrap (-IntKind.u64.wrap n)=(n.natAbs:Nat)):=Lib.hid (by
  intro hn
  rw [IntKind.wrap_u64,IntKind.wrap_u64]
  omega)
 by_cases hn:n<0
 ·go_enter Tryz.func73,Tryz.ntmps73
  go_wp2
  go_ret
  exact ⟨ret_int (HW.out hn),Below.refl _ _⟩
 ·go_enter Tryz.func73,Tryz.ntmps73
  go_wp2
  go_ret
  refine ⟨ret_int ?_,Below.refl _ _⟩
  omega
def chk (n d:Int):Int:=if d<1∨n = -9223372036854775808∨1<Nat.gcd d.toNat n.natAbs then 8 else 0
theorem check_any (n d:Int) (w:World) (h0 : -9223372036854775808≤n) (h1:n≤9223372036854775807) (h2 : -9223372036854775808≤d) (h3:d≤9223372036854775807) :
  Calls Tryz.prog 72 #[.agg #[.int .i64 n,.int .i64 d]] w fun e w'=>e=.returned (.int .i64 (chk n d))∧Below w.heap.size w w':=by
 by_cases hd:d<1
 ·have hch:chk n d=8:=by unfold chk;rw [if_pos (.inl hd)]
  rw [hch]
  go_enter Tryz.func72,Tryz.ntmps72
  go_wp2
  refine wp_region_quiet_below (by kernel_rfl) (by kernel_rfl) ?_
  repeat (go_big_quiet_step (fail))
  refine wpQuiet_nil ?_
  intro _ hw'
  obtain ⟨⟨dq,osq⟩,hw''⟩:=hw'
  subst hw''
  go_wp2
  go_ret
  exact ⟨rfl,below_reg (below_alloc (Below.refl _ _) _) _ _⟩
 ·have hdf:decide (d<1)=false:=by simpa using hd
  by_cases hm:n = -9223372036854775808
  ·have hch:chk n d=8:=by unfold chk;rw [if_pos (.inr (.inl hm))]
   rw [hch]
   have hmb:(n == -9223372036854775808)=true:=by simpa using hm
   clear hm
   go_enter Tryz.func72,Tryz.ntmps72
   go_wp2
   refine wp_region_quiet_below (by kernel_rfl) (by kernel_rfl) ?_
   repeat (go_big_quiet_step (fail))
   refine wpQuiet_nil ?_
   intro _ hw'
   obtain ⟨⟨dq,osq⟩,hw''⟩:=hw'
   subst hw''
   go_wp2
   go_ret
   exact ⟨rfl,below_reg (below_alloc (Below.refl _ _) _) _ _⟩
  ·have hmb:(n == -9223372036854775808)=false:=by simpa using hm
   obtain ⟨e,rfl⟩:=Int.eq_ofNat_of_zero_le (show 0≤d by omega)
   by_cases hg:1<Nat.gcd e n.natAbs
   ·have hch:chk n e=8:=by unfold chk;rw [if_pos (.inr (.inr (by simpa using hg)))]
    rw [hch]
    clear hm
    go_enter Tryz.func72,Tryz.ntmps72
    go_wp2
    refine wp_region_quiet_below (by kernel_rfl) (by kernel_rfl) ?_
    repeat (go_big_quiet_step (first|(go_at_call 73;(with_reducible refine Calls.regrown_of (abs_any _ _ ?_ ?_));omega;omega)|(go_at_call 103;(with_reducible refine Calls.regrown_of (gcd_any _ _ _)))))
    refine wpQuiet_nil ?_
    intro _ hw'
    obtain ⟨⟨dq,osq⟩,hw''⟩:=hw'
    subst hw''
    go_wp2
    go_ret
    exact ⟨rfl,below_reg (below_alloc (Below.refl _ _) _) _ _⟩
   ·have hch:chk n e=0:=by unfold chk;rw [if_neg (by rintro (h|h|h)<;>first|omega|exact hm h|exact hg (by simpa using h))]
    rw [hch]
    clear hm
    go_enter Tryz.func72,Tryz.ntmps72
    go_wp2
    refine wp_region_quiet_below (by kernel_rfl) (by kernel_rfl) ?_
    repeat (go_big_quiet_step (first|(go_at_call 73;(with_reducible refine Calls.regrown_of (abs_any _ _ ?_ ?_));omega;omega)|(go_at_call 103;(with_reducible refine Calls.regrown_of (gcd_any _ _ _)))))
    refine wpQuiet_nil ?_
    intro _ hw'
    obtain ⟨⟨dq,osq⟩,hw''⟩:=hw'
    subst hw''
    go_wp2
    go_ret
    exact ⟨rfl,below_reg (below_alloc (Below.refl _ _) _) _ _⟩
end Go.Proofs.YtddbmpbihpkabaaGreat

namespace Go.Proofs
open Go.Shelf
def Tryz.lays134_ren:Go.Shelf.Ren:=⟨fun|134=>124|129=>150|n=>n,fun|53=>124|3=>3|4=>4|46=>185|5=>5|9=>9|n=>n,fun|n=>n⟩
theorem Tryz.lays134:Go.Proofs.Lays.n134 Tryz.prog Tryz.lays134_ren:={
 mixed:=by kernel_rfl
 f129:=Tryz.func150.trans (congrArg some (by kernel_rfl))
 f134:=Tryz.func124.trans (congrArg some (by kernel_rfl))
 t3:=Tryz.underlying3
 a3:=Tryz.isAgg3
 z3:=Tryz.sizeOf3
 v3:=Tryz.zeroValue3
 t4:=Tryz.underlying4
 a4:=Tryz.isAgg4
 z4:=Tryz.sizeOf4
 v4:=Tryz.zeroValue4
 t5:=Tryz.underlying5
 a5:=Tryz.isAgg5
 z5:=Tryz.sizeOf5
 v5:=Tryz.zeroValue5
 t9:=Tryz.underlying9
 a9:=Tryz.isAgg9
 z9:=Tryz.sizeOf9
 v9:=Tryz.zeroValue9
 t46:=Tryz.underlying185
 a46:=Tryz.isAgg185
 z46:=Tryz.sizeOf185
 v46:=Tryz.zeroValue185
 t53:=Tryz.underlying124
 a53:=Tryz.isAgg124
 z53:=Tryz.sizeOf124
 v53:=Tryz.zeroValue124 }
theorem Tryz.bits_LeadingZeros64 (x:Int) (w:World) (h0:0≤x) (h1:x≤18446744073709551615) :
  Calls Tryz.prog 124 #[.int .u64 x] w fun e w'=>e=.returned (.int .i64 (64-(Lib.bitLen x.toNat:Int)))∧w'=w:=Any.bits_LeadingZeros64 Tryz.lays134 x w h0 h1
def Tryz.lays264_ren:Go.Shelf.Ren:=⟨fun|264=>112|n=>n,fun|53=>124|46=>185|n=>n,fun|n=>n⟩
theorem Tryz.lays264:Go.Proofs.Lays.n264 Tryz.prog Tryz.lays264_ren:={
 mixed:=by kernel_rfl
 f264:=Tryz.func112.trans (congrArg some (by kernel_rfl))
 t46:=Tryz.underlying185
 a46:=Tryz.isAgg185
 z46:=Tryz.sizeOf185
 v46:=Tryz.zeroValue185
 t53:=Tryz.underlying124
 a53:=Tryz.isAgg124
 z53:=Tryz.sizeOf124
 v53:=Tryz.zeroValue124 }
open Go.RowKit Go.Lib in
theorem Tryz.bits_Mul64 (x y:Nat) (hx:x<18446744073709551616) (hy:y<18446744073709551616) (w:World) :
  Calls Tryz.prog 112 #[.int .u64 x,.int .u64 y] w fun e w'=>e=.returned (.tuple #[.int .u64 ((x*y / 18446744073709551616:Nat):Int),.int .u64 ((x*y % 18446744073709551616:Nat):Int)])∧w'=w:=Any.bits_Mul64 Tryz.lays264 x y hx hy w
end Go.Proofs

namespace Go.Proofs.YtddbmpbihpkabaaGreat
open Go.RowKit Go.Sort
def askd (n d:Int):Int:=if chk n d≠0 then chk n d else if 1073741824<n.natAbs∨1024<d then 2 else 0
theorem chk_08 (n d:Int):chk n d=0∨chk n d=8:=by unfold chk;split<;>simp
theorem asked_any (n d:Int) (w:World) (h0 : -9223372036854775808≤n) (h1:n≤9223372036854775807) (h2 : -9223372036854775808≤d) (h3:d≤9223372036854775807) :
  Calls Tryz.prog 46 #[.agg #[.int .i64 n,.int .i64 d]] w fun e w'=>e=.returned (.int .i64 (askd n d))∧Below w.heap.size w w':=by
 cases hn:decide ((1073741824:Int)<(n.natAbs:Nat))<;>cases hd:decide (1024<d)
 all_goals
  go_enter Tryz.func46,Tryz.ntmps46
  go_wp2_with (first|(go_at_call 72;(with_reducible refine cmono ?_ (check_any _ _ _ ?_ ?_ ?_ ?_));rotate_left;omega;omega;omega;omega;rintro e w' ⟨rfl,hbc0⟩;obtain ⟨⟨dc0,osc0⟩,rfl⟩:=regrown_of_below hbc0;clear hbc0)|(go_at_call 73;(with_reducible refine cmono ?_ (abs_any _ _ ?_ ?_));rotate_left;omega;omega;rintro e w' ⟨rfl,hbc1⟩;obtain ⟨⟨dc1,osc1⟩,rfl⟩:=regrown_of_below hbc1;clear hbc1)|((with_reducible refine wp_region_quiet_below ?_ ?_ ?_);kernel_rfl;kernel_rfl;(repeat (go_big_quiet_step (first|(go_at_call 72;(with_reducible refine Calls.regrown_of (check_any _ _ _ ?_ ?_ ?_ ?_));omega;omega;omega;omega)|(go_at_call 73;(with_reducible refine Calls.regrown_of (abs_any _ _ ?_ ?_));omega;omega))));refine wpQuiet_nil ?_;intro _ hw';obtain ⟨⟨dq,osq⟩,hw''⟩:=hw';subst hw''))
  all_goals (go_ret;refine ⟨ret_int ?_,(by repeat (first|exact Below.refl _ _|refine below_reg ?_ _ _|refine below_alloc ?_ _|exact below_drewN ?_ _|assumption))⟩)
  all_goals (simp only [bne_iff_ne,bne_eq_false_iff_eq,decide_eq_true_eq,decide_eq_false_iff_not,ne_eq] at *)
  all_goals (unfold askd;(first|rw [if_pos (by omega)]|rw [if_neg (by omega)]))
  all_goals (first|rfl|(rw [if_pos (by omega)];done)|(rw [if_neg (by omega)];done))
def bth (n d m e:Int):Int:=if chk n d=0 then chk m e else 8
theorem both_any (n d m e:Int) (w:World) (h0 : -9223372036854775808≤n) (h1:n≤9223372036854775807) (h2 : -9223372036854775808≤d) (h3:d≤9223372036854775807)
  (k0 : -9223372036854775808≤m) (k1:m≤9223372036854775807) (k2 : -9223372036854775808≤e) (k3:e≤9223372036854775807) :
  Calls Tryz.prog 79 #[.agg #[.int .i64 n,.int .i64 d],.agg #[.int .i64 m,.int .i64 e]] w fun en w'=>en=.returned (.int .i64 (bth n d m e))∧Below w.heap.size w w':=by
 go_enter Tryz.func79,Tryz.ntmps79
 go_wp2_with (first|(go_at_call 72;(with_reducible refine cmono ?_ (check_any _ _ _ ?_ ?_ ?_ ?_));rotate_left;omega;omega;omega;omega;rintro e w' ⟨rfl,hbc0⟩;obtain ⟨⟨dc0,osc0⟩,rfl⟩:=regrown_of_below hbc0;clear hbc0)|((with_reducible refine wp_region_quiet_below ?_ ?_ ?_);kernel_rfl;kernel_rfl;(repeat (go_big_quiet_step (first|(go_at_call 72;(with_reducible refine Calls.regrown_of (check_any _ _ _ ?_ ?_ ?_ ?_));omega;omega;omega;omega))));refine wpQuiet_nil ?_;intro _ hw';obtain ⟨⟨dq,osq⟩,hw''⟩:=hw';subst hw''))
 go_ret
 refine ⟨ret_int ?_,(by repeat (first|exact Below.refl _ _|refine below_reg ?_ _ _|refine below_alloc ?_ _|exact below_drewN ?_ _|assumption))⟩
 unfold bth
 have c1:=chk_08 n d
 have c2:=chk_08 m e
 rcases c1 with c1|c1<;>rcases c2 with c2|c2<;>rw [c1,c2]<;>rfl
def cmpN (a b:Int):Int:=if a<b then -1 else if b<a then 1 else 0
theorem cmpi_any (n m:Int) (w:World) :
  Calls Tryz.prog 80 #[.int .i64 n,.int .i64 m] w fun en w'=>en=.returned (.int .i64 (cmpN n m))∧Below w.heap.size w w':=by
 go_enter Tryz.func80,Tryz.ntmps80
 go_wp2_with (first|go_in|((with_reducible refine wp_region_quiet_below ?_ ?_ ?_);kernel_rfl;kernel_rfl;(repeat (go_big_quiet_step (fail)));refine wpQuiet_nil ?_;intro _ hw';obtain ⟨⟨dq,osq⟩,hw''⟩:=hw';subst hw''))
 all_goals (go_ret;refine ⟨ret_int ?_,(by repeat (first|exact Below.refl _ _|refine below_reg ?_ _ _|refine below_alloc ?_ _|exact below_drewN ?_ _|assumption))⟩)
 all_goals (unfold cmpN;(repeat' split)<;>omega)
theorem cmpu_any (n m:Int) (w:World) :
  Calls Tryz.prog 111 #[.int .u64 n,.int .u64 m] w fun en w'=>en=.returned (.int .i64 (cmpN n m))∧Below w.heap.size w w':=by
 go_enter Tryz.func111,Tryz.ntmps111
 go_wp2_with (first|go_in|((with_reducible refine wp_region_quiet_below ?_ ?_ ?_);kernel_rfl;kernel_rfl;(repeat (go_big_quiet_step (fail)));refine wpQuiet_nil ?_;intro _ hw';obtain ⟨⟨dq,osq⟩,hw''⟩:=hw';subst hw''))
 all_goals (go_ret;refine ⟨ret_int ?_,(by repeat (first|exact Below.refl _ _|refine below_reg ?_ _ _|refine below_alloc ?_ _|exact below_drewN ?_ _|assumption))⟩)
 all_goals (unfold cmpN;(repeat' split)<;>omega)
theorem times_any (a b:Int) (w:World)  (h0 : -9223372036854775808≤a) (h1:a≤9223372036854775807) (h2 : -9223372036854775808≤b) (h3:b≤9223372036854775807) :
  Calls Tryz.prog 82 #[.int .i64 a,.int .i64 b] w fun en w'=>en=.returned (.agg #[.bool (decide (a<0) != decide (b<0)),.int .u64 (a.natAbs*b.natAbs / 18446744073709551616:Nat),.int .u64 (a.natAbs*b.natAbs % 18446744073709551616:Nat)])∧Below w.heap.size w w':=by
 go_enter Tryz.func82,Tryz.ntmps82
 go_wp2_with (first|(go_at_call 112;refine (Tryz.bits_Mul64 _ _ (by omega) (by omega) _).mono ?_;rintro e w' ⟨rfl,rfl⟩)|(go_at_call 73;(with_reducible refine cmono ?_ (abs_any _ _ ?_ ?_));rotate_left;omega;omega;rintro e w' ⟨rfl,hbc0⟩;obtain ⟨⟨dc0,osc0⟩,rfl⟩:=regrown_of_below hbc0;clear hbc0)|((with_reducible refine wp_region_quiet_below ?_ ?_ ?_);kernel_rfl;kernel_rfl;(repeat (go_big_quiet_step (first|(go_at_call 73;(with_reducible refine Calls.regrown_of (abs_any _ _ ?_ ?_));omega;omega))));refine wpQuiet_nil ?_;intro _ hw';obtain ⟨⟨dq,osq⟩,hw''⟩:=hw';subst hw''))
 refine bodyPost_ret (v:=.agg #[.bool (decide (a<0) != decide (b<0)),.int .u64 (a.natAbs*b.natAbs / 18446744073709551616:Nat),.int .u64 (a.natAbs*b.natAbs % 18446744073709551616:Nat)]) (by simp [results,Tryz.results82,go_sem];cases decide (a<0)<;>cases decide (b<0)<;>rfl) rfl ⟨rfl,(by repeat (first|exact Below.refl _ _|refine below_reg ?_ _ _|refine below_alloc ?_ _|exact below_drewN ?_ _|assumption))⟩
theorem cmpN_hi (a b c d:Nat) (hb:b<18446744073709551616) (hd:d<18446744073709551616) :
  cmpN ((a*18446744073709551616+b:Nat):Int) ((c*18446744073709551616+d:Nat):Int)=if cmpN (a:Int) c != 0 then cmpN (a:Int) c else cmpN (b:Int) d:=by
 unfold cmpN
 (repeat' split)<;>first|rfl|omega|(exfalso;simp_all;done)|(exfalso;simp_all;omega)
theorem compare_any (x y:Bool) (a b c d:Nat) (w:World) (hb:b<18446744073709551616) (hd:d<18446744073709551616) :
  Calls Tryz.prog 81 #[.agg #[.bool x,.int .u64 a,.int .u64 b],.agg #[.bool y,.int .u64 c,.int .u64 d]] w fun en w'=>en=.returned (.int .i64 (cmpN ((a*18446744073709551616+b:Nat):Int) ((c*18446744073709551616+d:Nat):Int)))∧Below w.heap.size w w':=by
 go_enter Tryz.func81,Tryz.ntmps81
 go_wp2_with (first|(go_at_call 111;(with_reducible refine cmono ?_ (cmpu_any _ _ _));rotate_left;rintro e w' ⟨rfl,hbc0⟩;obtain ⟨⟨dc0,osc0⟩,rfl⟩:=regrown_of_below hbc0;clear hbc0)|((with_reducible refine wp_region_quiet_below ?_ ?_ ?_);kernel_rfl;kernel_rfl;(repeat (go_big_quiet_step (first|(go_at_call 111;(with_reducible refine Calls.regrown_of (cmpu_any _ _ _))))));refine wpQuiet_nil ?_;intro _ hw';obtain ⟨⟨dq,osq⟩,hw''⟩:=hw';subst hw''))
 all_goals (go_ret;refine ⟨ret_int ?_,(by repeat (first|exact Below.refl _ _|refine below_reg ?_ _ _|refine below_alloc ?_ _|exact below_drewN ?_ _|assumption))⟩)
 all_goals (rw [cmpN_hi a b c d hb hd];simp [*])
end Go.Proofs.YtddbmpbihpkabaaGreat

namespace Go.Proofs.YtddbmpbihpkabaaGreat
open Go.RowKit Go.Sort
theorem run_Add64 (x y c:Nat) (hc:c≤1) (w:World) :
  (callFunc 123 #[.int .u64 x,.int .u64 y,.int .u64 c]).run Tryz.prog w=.ok (.value (.tuple #[.int .u64 ((x+y+c) % 18446744073709551616:Nat),.int .u64 ((x+y+c) / 18446744073709551616:Nat)])) w:=by
 rw [run_callFunc_extern Tryz.func123 (by kernel_rfl) (by kernel_rfl) (by kernel_rfl) (e:=add64Entry) (by kernel_rfl),run_add64 x y c (by omega) (by omega) (by omega) (by omega)]
 simp only [Result.andThen]
 congr 5<;>omega
theorem run_Sub64 (x y b:Nat) (hb:b≤1) (w:World) :
  (callFunc 88 #[.int .u64 x,.int .u64 y,.int .u64 b]).run Tryz.prog w=.ok (.value (.tuple #[.int .u64 ((x+18446744073709551616-y-b) % 18446744073709551616:Nat),.int .u64 ((if x<y+b then 1 else 0:Nat):Int)])) w:=by
 rw [run_callFunc_extern Tryz.func88 (by kernel_rfl) (by kernel_rfl) (by kernel_rfl) (e:=sub64Entry) (by kernel_rfl),run_sub64 x y b hb]
 rfl
def plusM (x y:Bool) (m n:Nat):Nat:=if x=y then m+n else if m<n then n-m else m-n
def plusS (x y:Bool) (m n:Nat):Bool:=if x=y then x else if m<n then y else x
theorem plus_same (x:Bool) (a b c d:Nat) (w:World) (hb:b<18446744073709551616) (hd:d<18446744073709551616) (ha:a+c<18446744073709551614) :
  Calls Tryz.prog 151 #[.agg #[.bool x,.int .u64 a,.int .u64 b],.agg #[.bool x,.int .u64 c,.int .u64 d]] w fun en w' =>
   en=.returned (.agg #[.bool x,.int .u64 ((a*18446744073709551616+b+(c*18446744073709551616+d)) / 18446744073709551616:Nat),.int .u64 ((a*18446744073709551616+b+(c*18446744073709551616+d)) % 18446744073709551616:Nat)])∧Below w.heap.size w w':=by
 obtain ⟨lo,hlo⟩:∃ lo,lo=(b+d+0) % 18446744073709551616:=⟨_,rfl⟩
 obtain ⟨cy,hcy⟩:∃ cy,cy=(b+d+0) / 18446744073709551616:=⟨_,rfl⟩
 obtain ⟨hi,hhi⟩:∃ hi,hi=(a+c+cy) % 18446744073709551616:=⟨_,rfl⟩
 have E1:∀ w,(callFunc 123 #[.int .u64 b,.int .u64 d,.int .u64 0]).run Tryz.prog w=.ok (.value (.tuple #[.int .u64 lo,.int .u64 cy])) w:=by
  rw [hlo,hcy];exact run_Add64 b d 0 (by omega)
 have E2:∀ w,(callFunc 123 #[.int .u64 a,.int .u64 c,.int .u64 cy]).run Tryz.prog w=.ok (.value (.tuple #[.int .u64 hi,.int .u64 ((a+c+cy) / 18446744073709551616:Nat)])) w:=by
  rw [hhi];exact run_Add64 a c cy (by omega)
 have R1:(a*18446744073709551616+b+(c*18446744073709551616+d)) / 18446744073709551616=hi:=by omega
 have R2:(a*18446744073709551616+b+(c*18446744073709551616+d)) % 18446744073709551616=lo:=by omega
 rw [R1,R2]
 clear R1 R2 hlo hcy hhi
 go_enter Tryz.func151,Tryz.ntmps151
 go_wp2_with (first|((with_reducible refine wp_region_quiet_below ?_ ?_ ?_);kernel_rfl;kernel_rfl;(repeat (go_big_quiet_step (fail)));refine wpQuiet_nil ?_;intro _ hw';obtain ⟨⟨dq,osq⟩,hw''⟩:=hw';subst hw''))
 refine bodyPost_ret (v:=.agg #[.bool x,.int .u64 hi,.int .u64 lo]) (by simp [results,Tryz.results151,go_sem]) rfl ⟨rfl,(by repeat (first|exact Below.refl _ _|refine below_reg ?_ _ _|refine below_alloc ?_ _|exact below_drewN ?_ _|assumption))⟩
theorem plus_other (x:Bool) (a b c d:Nat) (w:World) (hb:b<18446744073709551616) (hd:d<18446744073709551616) (ha:a<18446744073709551616) (hc:c<18446744073709551616)
  (hlt:a*18446744073709551616+b<c*18446744073709551616+d) :
  Calls Tryz.prog 151 #[.agg #[.bool x,.int .u64 a,.int .u64 b],.agg #[.bool (!x),.int .u64 c,.int .u64 d]] w fun en w' =>
   en=.returned (.agg #[.bool (!x),.int .u64 ((c*18446744073709551616+d-(a*18446744073709551616+b)) / 18446744073709551616:Nat),.int .u64 ((c*18446744073709551616+d-(a*18446744073709551616+b)) % 18446744073709551616:Nat)])∧Below w.heap.size w w':=by
 obtain ⟨lo,hlo⟩:∃ lo,lo=(d+18446744073709551616-b-0) % 18446744073709551616:=⟨_,rfl⟩
 obtain ⟨cy,hcy⟩:∃ cy:Nat,cy=if d<b+0 then 1 else 0:=⟨_,rfl⟩
 obtain ⟨hi,hhi⟩:∃ hi,hi=(c+18446744073709551616-a-cy) % 18446744073709551616:=⟨_,rfl⟩
 have hcy1:cy≤1:=by rw [hcy];split<;>omega
 have E1:∀ w,(callFunc 88 #[.int .u64 d,.int .u64 b,.int .u64 0]).run Tryz.prog w=.ok (.value (.tuple #[.int .u64 lo,.int .u64 cy])) w:=by
  rw [hlo,hcy];exact run_Sub64 d b 0 (by omega)
 have E2:∀ w,(callFunc 88 #[.int .u64 c,.int .u64 a,.int .u64 cy]).run Tryz.prog w=.ok (.value (.tuple #[.int .u64 hi,.int .u64 ((if c<a+cy then 1 else 0:Nat):Int)])) w:=by
  rw [hhi];exact run_Sub64 c a cy hcy1
 have R1:(c*18446744073709551616+d-(a*18446744073709551616+b)) / 18446744073709551616=hi:=by rw [hhi,hcy];split<;>omega
 have R2:(c*18446744073709551616+d-(a*18446744073709551616+b)) % 18446744073709551616=lo:=by omega
 have hC:cmpN ((a*18446744073709551616+b:Nat):Int) ((c*18446744073709551616+d:Nat):Int) = -1:=by unfold cmpN;rw [if_pos (by omega)]
 have HP:=compare_any x (!x) a b c d
 rw [hC] at HP
 have HQ:=Lib.hid HP
 rw [R1,R2]
 clear R1 R2 hlo hcy hhi hC HP hlt
 go_enter Tryz.func151,Tryz.ntmps151
 go_wp2_with (first|(go_at_call 81;(with_reducible refine cmono ?_ (HQ.out _ hb hd));rotate_left;rintro e w' ⟨rfl,hb7⟩;obtain ⟨⟨d7,os7⟩,rfl⟩:=regrown_of_below hb7;clear hb7)|((with_reducible refine wp_region_quiet_below ?_ ?_ ?_);kernel_rfl;kernel_rfl;(repeat (go_big_quiet_step (fail)));refine wpQuiet_nil ?_;intro _ hw';obtain ⟨⟨dq,osq⟩,hw''⟩:=hw';subst hw''))
 all_goals refine bodyPost_ret (v:=.agg #[.bool (!x),.int .u64 hi,.int .u64 lo]) (by simp [results,Tryz.results151,go_sem]) rfl ⟨rfl,(by repeat (first|exact Below.refl _ _|refine below_reg ?_ _ _|refine below_alloc ?_ _|exact below_drewN ?_ _|assumption))⟩
theorem plus_more (x:Bool) (a b c d:Nat) (w:World) (hb:b<18446744073709551616) (hd:d<18446744073709551616) (ha:a<18446744073709551616) (hc:c<18446744073709551616)
  (hlt:¬ a*18446744073709551616+b<c*18446744073709551616+d) :
  Calls Tryz.prog 151 #[.agg #[.bool x,.int .u64 a,.int .u64 b],.agg #[.bool (!x),.int .u64 c,.int .u64 d]] w fun en w' =>
   en=.returned (.agg #[.bool x,.int .u64 ((a*18446744073709551616+b-(c*18446744073709551616+d)) / 18446744073709551616:Nat),.int .u64 ((a*18446744073709551616+b-(c*18446744073709551616+d)) % 18446744073709551616:Nat)])∧Below w.heap.size w w':=by
 obtain ⟨lo,hlo⟩:∃ lo,lo=(b+18446744073709551616-d-0) % 18446744073709551616:=⟨_,rfl⟩
 obtain ⟨cy,hcy⟩:∃ cy:Nat,cy=if b<d+0 then 1 else 0:=⟨_,rfl⟩
 obtain ⟨hi,hhi⟩:∃ hi,hi=(a+18446744073709551616-c-cy) % 18446744073709551616:=⟨_,rfl⟩
 have hcy1:cy≤1:=by rw [hcy];split<;>omega
 have E1:∀ w,(callFunc 88 #[.int .u64 b,.int .u64 d,.int .u64 0]).run Tryz.prog w=.ok (.value (.tuple #[.int .u64 lo,.int .u64 cy])) w:=by
  rw [hlo,hcy];exact run_Sub64 b d 0 (by omega)
 have E2:∀ w,(callFunc 88 #[.int .u64 a,.int .u64 c,.int .u64 cy]).run Tryz.prog w=.ok (.value (.tuple #[.int .u64 hi,.int .u64 ((if a<c+cy then 1 else 0:Nat):Int)])) w:=by
  rw [hhi];exact run_Sub64 a c cy hcy1
 have R1:(a*18446744073709551616+b-(c*18446744073709551616+d)) / 18446744073709551616=hi:=by rw [hhi,hcy];split<;>omega
 have R2:(a*18446744073709551616+b-(c*18446744073709551616+d)) % 18446744073709551616=lo:=by omega
 obtain ⟨k,hk⟩:∃ k,k=cmpN ((a*18446744073709551616+b:Nat):Int) ((c*18446744073709551616+d:Nat):Int):=⟨_,rfl⟩
 have hk0:¬ k<0:=by rw [hk];unfold cmpN;(repeat' split)<;>omega
 have HP:=compare_any x (!x) a b c d
 rw [← hk] at HP
 have HQ:=Lib.hid HP
 rw [R1,R2]
 clear R1 R2 hlo hcy hhi hk HP hlt
 go_enter Tryz.func151,Tryz.ntmps151
 go_wp2_with (first|(go_at_call 81;(with_reducible refine cmono ?_ (HQ.out _ hb hd));rotate_left;rintro e w' ⟨rfl,hb7⟩;obtain ⟨⟨d7,os7⟩,rfl⟩:=regrown_of_below hb7;clear hb7)|((with_reducible refine wp_region_quiet_below ?_ ?_ ?_);kernel_rfl;kernel_rfl;(repeat (go_big_quiet_step (fail)));refine wpQuiet_nil ?_;intro _ hw';obtain ⟨⟨dq,osq⟩,hw''⟩:=hw';subst hw''))
 all_goals refine bodyPost_ret (v:=.agg #[.bool x,.int .u64 hi,.int .u64 lo]) (by simp [results,Tryz.results151,go_sem]) rfl ⟨rfl,(by repeat (first|exact Below.refl _ _|refine below_reg ?_ _ _|refine below_alloc ?_ _|exact below_drewN ?_ _|assumption))⟩
theorem plus_any (x y:Bool) (a b c d:Nat) (w:World) (hb:b<18446744073709551616) (hd:d<18446744073709551616) (ha:a<9223372036854775807) (hc:c<9223372036854775807) :
  Calls Tryz.prog 151 #[.agg #[.bool x,.int .u64 a,.int .u64 b],.agg #[.bool y,.int .u64 c,.int .u64 d]] w fun en w' =>
   en=.returned (.agg #[.bool (plusS x y (a*18446744073709551616+b) (c*18446744073709551616+d)),.int .u64 (plusM x y (a*18446744073709551616+b) (c*18446744073709551616+d) / 18446744073709551616:Nat),.int .u64 (plusM x y (a*18446744073709551616+b) (c*18446744073709551616+d) % 18446744073709551616:Nat)])∧Below w.heap.size w w':=by
 by_cases hxy:x=y
 ·subst hxy
  simp only [plusS,plusM,if_true]
  exact plus_same x a b c d w hb hd (by omega)
 ·obtain rfl:y = !x:=by cases x<;>cases y<;>simp_all
  by_cases hlt:a*18446744073709551616+b<c*18446744073709551616+d
  ·simp only [plusS,plusM,hxy,if_false,hlt,if_true]
   exact plus_other x a b c d w hb hd (by omega) (by omega) hlt
  ·simp only [plusS,plusM,hxy,if_false,hlt]
   exact plus_more x a b c d w hb hd (by omega) (by omega) hlt
end Go.Proofs.YtddbmpbihpkabaaGreat

namespace Go.Proofs.YtddbmpbihpkabaaGreat
theorem kn_le (y1 y0 u un q r : Nat) (hu : u = q * y1 + r) : q * y0 ≤ 4294967296 * r + un ↔ q * (y1 * 4294967296 + y0) ≤ u * 4294967296 + un := by
  have e1 : u * 4294967296 = q * y1 * 4294967296 + r * 4294967296 := by rw [hu, Nat.add_mul]
  have e2 : q * (y1 * 4294967296 + y0) = q * y1 * 4294967296 + q * y0 := by rw [Nat.mul_add, Nat.mul_assoc]
  omega
theorem kn_done (y n q : Nat) (hy : 0 < y) (h1 : q * y ≤ n) (h2 : n / y ≤ q) : q = n / y :=
  Nat.le_antisymm ((Nat.le_div_iff_mul_le hy).2 h1) h2
theorem kn_start (y1 y0 u un : Nat) (hy : 0 < y1) (hun : un < 4294967296) : (u * 4294967296 + un) / (y1 * 4294967296 + y0) ≤ u / y1 := by
  have h1 : (u * 4294967296 + un) / (y1 * 4294967296 + y0) ≤ (u * 4294967296 + un) / (4294967296 * y1) :=
    Nat.div_le_div_left (by omega) (by omega)
  rw [← Nat.div_div_eq_div_mul] at h1
  have h2 : (u * 4294967296 + un) / 4294967296 = u := by omega
  rw [h2] at h1
  exact h1
theorem kn_less (y u un : Nat) (hu : u < y) (hun : un < 4294967296) : (u * 4294967296 + un) / y < 4294967296 := by
  rw [Nat.div_lt_iff_lt_mul (by omega)]
  have : (u + 1) * 4294967296 ≤ y * 4294967296 := Nat.mul_le_mul_right _ hu
  have : 4294967296 * y = y * 4294967296 := Nat.mul_comm _ _
  omega
theorem kn_dec (y n q : Nat) (hy : 0 < y) (h : ¬ q * y ≤ n) : n / y < q := by
  rw [Nat.div_lt_iff_lt_mul hy]
  omega
theorem kn_break (y1 y0 u un q r : Nat) (hu : u = q * y1 + r) (hy : u < y1 * 4294967296 + y0) (h0 : y0 < 4294967296) (hr : 4294967296 ≤ r) : q * (y1 * 4294967296 + y0) ≤ u * 4294967296 + un := by
  rw [← kn_le y1 y0 u un q r hu]
  have hq : q < 4294967296 := by
    have h1 : q * y1 < 4294967296 * y1 := by omega
    exact Nat.lt_of_mul_lt_mul_right h1
  have h2 : q * y0 ≤ 4294967296 * 4294967296 := Nat.mul_le_mul (by omega) (by omega)
  omega
theorem kn_rem (u y1 : Nat) (hu : u < 18446744073709551616) : IntKind.u64.wrap ((u : Int) - IntKind.u64.wrap ((u : Int) / (y1 : Int) * (y1 : Int))) = ((u % y1 : Nat) : Int) := by
  have e : (u : Int) / (y1 : Int) * (y1 : Int) = ((u / y1 * y1 : Nat) : Int) := by simp
  have h := Nat.div_add_mod u y1
  rw [Nat.mul_comm] at h
  rw [e, IntKind.wrap_u64, IntKind.wrap_u64]
  generalize u / y1 * y1 = p at *
  omega
theorem kn_exit (Y y1 y0 u v1 q r : Nat) (hY : Y = y1 * 4294967296 + y0) (hy : 0 < Y) (hu : u = q * y1 + r) (hq : (u * 4294967296 + v1) / Y ≤ q) (ht : ¬ 4294967296 * r + v1 < q * y0) : q = (u * 4294967296 + v1) / Y :=
  kn_done Y _ q hy (by rw [hY]; exact (kn_le y1 y0 u v1 q r hu).1 (by omega)) hq
theorem kn_next (Y y1 y0 u v1 q r : Nat) (hY : Y = y1 * 4294967296 + y0) (hy : 0 < Y) (huY : u < Y) (hv : v1 < 4294967296) (hu : u = q * y1 + r) (ht : 4294967296 ≤ q ∨ 4294967296 * r + v1 < q * y0) :
    (u * 4294967296 + v1) / Y < q := by
  rcases ht with ht | ht
  · have := kn_less Y u v1 huY hv; omega
  · refine kn_dec Y _ q hy ?_
    rw [hY, ← kn_le y1 y0 u v1 q r hu]
    omega
theorem kn_down (y1 u q r : Nat) (hq : 0 < q) (hu : u = q * y1 + r) : u = (q - 1) * y1 + (r + y1) := by
  obtain ⟨k, rfl⟩ : ∃ k, q = k + 1 := ⟨q - 1, by omega⟩
  rw [Nat.add_mul] at hu
  simp only [Nat.add_sub_cancel]
  omega
theorem kn_shift (hi lo y s : Nat) (hs : s < 64) (hy : hi < y) (hlo : lo < 18446744073709551616) :
    hi * 2 ^ s ||| lo / 2 ^ (64 - s) = hi * 2 ^ s + lo / 2 ^ (64 - s) ∧
    (hi * 2 ^ s + lo / 2 ^ (64 - s)) * 18446744073709551616 + lo * 2 ^ s % 18446744073709551616 = (hi * 18446744073709551616 + lo) * 2 ^ s ∧ hi * 2 ^ s + lo / 2 ^ (64 - s) < y * 2 ^ s := by
  have hp : 2 ^ (64 - s) * 2 ^ s = 18446744073709551616 := by rw [← Nat.pow_add, show 64 - s + s = 64 by omega]
  have hps : 0 < 2 ^ s := Nat.two_pow_pos _
  generalize 2 ^ (64 - s) = B at *
  have hb : lo / B < 2 ^ s := by
    rw [Nat.div_lt_iff_lt_mul (by rcases Nat.eq_zero_or_pos B with h | h; · rw [h] at hp; omega
                                  · exact h)]
    rw [Nat.mul_comm]; omega
  have h1 : hi * 2 ^ s ||| lo / B = hi * 2 ^ s + lo / B := by
    rw [Nat.mul_comm, Nat.two_pow_add_eq_or_of_lt hb]
  have h2 : lo * 2 ^ s / 18446744073709551616 = lo / B := by
    rw [← hp]; exact Nat.mul_div_mul_right _ _ hps
  have h3 : (hi * 2 ^ s + lo / B) * 18446744073709551616 + lo * 2 ^ s % 18446744073709551616 = (hi * 18446744073709551616 + lo) * 2 ^ s := by
    have e1 : (hi * 18446744073709551616 + lo) * 2 ^ s = hi * 18446744073709551616 * 2 ^ s + lo * 2 ^ s := Nat.add_mul _ _ _
    have e2 : hi * 18446744073709551616 * 2 ^ s = hi * 2 ^ s * 18446744073709551616 := by rw [Nat.mul_assoc, Nat.mul_comm 18446744073709551616, ← Nat.mul_assoc]
    omega
  refine ⟨h1, h3, ?_⟩
  have h4 : (hi * 18446744073709551616 + lo) * 2 ^ s < y * 18446744073709551616 * 2 ^ s := Nat.mul_lt_mul_of_pos_right (by omega) hps
  have h5 : y * 18446744073709551616 * 2 ^ s = y * 2 ^ s * 18446744073709551616 := by rw [Nat.mul_assoc, Nat.mul_comm 18446744073709551616, ← Nat.mul_assoc]
  omega
theorem kn_left (u v1 q Y : Nat) (hq : q = (u * 4294967296 + v1) / Y) (hY : 0 < Y) (hYb : Y < 18446744073709551616) :
    IntKind.u64.wrap (IntKind.u64.wrap (IntKind.u64.wrap ((u : Int) * 4294967296) + (v1 : Int)) - IntKind.u64.wrap ((q : Int) * (Y : Int))) = (((u * 4294967296 + v1) % Y : Nat) : Int) := by
  have e : (q : Int) * (Y : Int) = ((q * Y : Nat) : Int) := by simp
  have h := Nat.div_add_mod (u * 4294967296 + v1) Y
  have hl := Nat.mod_lt (u * 4294967296 + v1) hY
  rw [← hq, Nat.mul_comm] at h
  rw [e]
  generalize (u * 4294967296 + v1) % Y = m at *
  generalize q * Y = p at *
  simp only [IntKind.wrap_u64]
  omega
theorem kn_two (b y n un0 : Nat) (hy : 0 < y) :
    (n * b + un0) / y = n / y * b + (n % y * b + un0) / y ∧ (n * b + un0) % y = (n % y * b + un0) % y := by
  have e : n * b + un0 = (n % y * b + un0) + y * (n / y * b) := by
    have h := Nat.div_add_mod n y
    have h2 : n * b = y * (n / y) * b + n % y * b := by rw [← Nat.add_mul, h]
    rw [Nat.mul_assoc] at h2
    omega
  rw [e, Nat.add_mul_div_left _ _ hy, Nat.add_mul_mod_self_left]
  exact ⟨Nat.add_comm _ _, rfl⟩
theorem kn_join (u v v1 v0 n up : Nat) (hU : u * 18446744073709551616 + v = up) (hV : v = v1 * 4294967296 + v0) (hn : n = u * 4294967296 + v1) : n * 4294967296 + v0 = up := by
  subst hn hV hU
  rw [Nat.add_mul, Nat.mul_assoc]
  omega
theorem kn_fin (U y Y u v v1 v0 m q1 q2 x s : Nat) (hU : u * 18446744073709551616 + v = U * 2 ^ s) (hV : v = v1 * 4294967296 + v0) (hY : Y = y * 2 ^ s) (hYp : 0 < Y)
    (h1 : q1 = (u * 4294967296 + v1) / Y) (hm : m = (u * 4294967296 + v1) % Y) (h2 : q2 = (m * 4294967296 + v0) / Y) (hx : x = (m * 4294967296 + v0) % Y) :
    q1 * 4294967296 + q2 = U / y ∧ x / 2 ^ s = U % y := by
  have hp : 0 < 2 ^ s := Nat.two_pow_pos _
  generalize 2 ^ s = p at *
  generalize hUp : U * p = up at *
  obtain ⟨n, hn⟩ : ∃ n, n = u * 4294967296 + v1 := ⟨_, rfl⟩
  rw [← hn] at h1 hm
  have e3 : n * 4294967296 + v0 = U * p := kn_join u v v1 v0 n up hU hV hn |>.trans hUp.symm
  obtain ⟨e1, e2⟩ := kn_two 4294967296 Y n v0 hYp
  rw [e3, ← h1, ← hm, ← h2, hY, Nat.mul_div_mul_right _ _ hp] at e1
  rw [e3, ← hm, ← hx, hY, Nat.mul_mod_mul_right] at e2
  exact ⟨e1.symm, by rw [← e2, Nat.mul_div_cancel _ hp]⟩
theorem hi_of (W q l : Nat) (h : l < W) : (q * W + l) / W = q := by
  rw [Nat.mul_comm, Nat.mul_add_div (by omega), Nat.div_eq_of_lt h, Nat.add_zero]
theorem lo_of (W q l : Nat) (h : l < W) : (q * W + l) % W = l := by
  rw [Nat.mul_comm, Nat.mul_add_mod, Nat.mod_eq_of_lt h]
end Go.Proofs.YtddbmpbihpkabaaGreat
