import Derived.Test.YtfkfficabeclcaaGreatDoorGLTRanksAI
import Derived.ChangeKeysEq
import Derived.Test.YtfkfficabeclcaaGreatDoorProg
import Derived.Test.YtfkfficabeclcaaGreatDoorChecked
import Derived.Test.YtfkfficabeclcaaGreatDoorGLTRanksAJ
set_option linter.all false
namespace Go.Proofs.YtfkfficabeclcaaGreatDoor
open Go Go.RowKit
namespace Sx
def Ty:List (Nat × TD):=[(2,.int .i64),
 (3,.int .i64),
 (4,.bool),
 (5,.int .u8),
 (9,.sc (.v (.string "".toUTF8))),
 (12,.int .u64),
 (21,.int .i32),
 (23,.int .i64),
 (24,.st 2 [.v (.int .i64 0),.v (.int .i64 0)] [(0,1,false),(1,1,false)]),
 (25,.st 2 [.v (.int .i64 0),.v (.int .i64 0)] [(0,1,false),(1,1,false)]),
 (26,.sl 4 true [.v (.int .i64 0),.v (.int .i64 0),.v (.int .i64 0),.v (.int .i64 0)]),
 (27,.st 6 [.v (.int .i64 0),.v (.int .i64 0),.v (.int .i64 0),.v (.int .i64 0),.v (.int .i64 0),.nil 4] [(0,1,false),(1,1,false),(2,1,false),(3,2,true),(5,1,false)]),
 (28,.st 6 [.v (.int .i64 0),.v (.int .i64 0),.v (.int .i64 0),.v (.int .i64 0),.v (.int .i64 0),.nil 4] [(0,1,false),(1,1,false),(2,1,false),(3,2,true),(5,1,false)]),
 (30,.st 4 [.v (.int .i64 0),.v (.int .i64 0),.v (.int .i64 0),.v (.int .i64 0)] [(0,2,true),(2,1,false),(3,1,false)]),
 (31,.st 4 [.v (.int .i64 0),.v (.int .i64 0),.v (.int .i64 0),.v (.int .i64 0)] [(0,2,true),(2,1,false),(3,1,false)]),
 (32,.sl 6 true [.v (.int .i64 0),.v (.int .i64 0),.v (.int .i64 0),.v (.int .i64 0),.v (.int .i64 0),.nil 4]),
 (37,.sl 3 true [.v (.int .i64 0),.v (.int .i64 0),.v (.int .i64 0)]),
 (38,.st 1 [.nil 3] [(0,1,false)]),
 (39,.st 1 [.nil 3] [(0,1,false)]),
 (40,.st 3 [.v (.int .i64 0),.v (.int .i64 0),.nil 3] [(0,2,true),(2,1,true)]),
 (41,.st 3 [.v (.int .i64 0),.v (.int .i64 0),.nil 3] [(0,2,true),(2,1,true)]),
 (42,.st 3 [.v (.int .i64 0),.v (.int .i64 0),.v (.int .i64 0)] [(0,1,false),(1,1,false),(2,1,false)]),
 (43,.st 3 [.v (.int .i64 0),.v (.int .i64 0),.v (.int .i64 0)] [(0,1,false),(1,1,false),(2,1,false)]),
 (45,.sl 1 false [.v (.int .u8 0)]),
 (53,.st 7 [.v (.int .u8 0),.v (.int .i64 0),.v (.int .i64 0),.v (.int .i64 0),.v (.int .i64 0),.v (.int .i64 0),.v (.int .i64 0)] [(0,1,false),(1,3,true),(4,1,false),(5,2,true)]),
 (54,.st 7 [.v (.int .u8 0),.v (.int .i64 0),.v (.int .i64 0),.v (.int .i64 0),.v (.int .i64 0),.v (.int .i64 0),.v (.int .i64 0)] [(0,1,false),(1,3,true),(4,1,false),(5,2,true)]),
 (58,.sl 7 true [.v (.int .u8 0),.v (.int .i64 0),.v (.int .i64 0),.v (.int .i64 0),.v (.int .i64 0),.v (.int .i64 0),.v (.int .i64 0)]),
 (63,.sl 1 false [.v (.string "".toUTF8)]),
 (74,.sl 1 false [.v (.int .i64 0)]),
 (121,.int .u64),
 (122,.st 2 [.v (.int .i64 0),.v (.int .u64 0)] [(0,1,false),(1,1,false)]),
 (123,.st 2 [.v (.int .i64 0),.v (.int .u64 0)] [(0,1,false),(1,1,false)]),
 (125,.ar 2 [.v (.int .i64 0),.v (.int .i64 0)] 2 1 false),
 (126,.ar 4 [.v (.int .i64 0),.v (.int .i64 0),.v (.int .i64 0),.v (.int .i64 0)] 2 2 true),
 (152,.int .u64),
 (158,.st 2 [.v (.pointer none),.nil 1] [(0,1,false),(1,1,false)]),
 (159,.st 2 [.v (.pointer none),.nil 1] [(0,1,false),(1,1,false)]),
 (185,.sl 1 false [.v (.int .i64 0)]),
 (201,.st 3 [.v (.bool false),.v (.int .u64 0),.v (.int .u64 0)] [(0,1,false),(1,1,false),(2,1,false)]),
 (202,.st 3 [.v (.bool false),.v (.int .u64 0),.v (.int .u64 0)] [(0,1,false),(1,1,false),(2,1,false)]),
 (205,.int .i64),
 (212,.int .u32),
 (213,.sl 2 true [.v (.int .i64 0),.v (.int .i64 0)]),
 (229,.st 3 [.v (.bool false),.v (.int .u64 0),.v (.int .u64 0)] [(0,1,false),(1,1,false),(2,1,false)]),
 (230,.st 3 [.v (.bool false),.v (.int .u64 0),.v (.int .u64 0)] [(0,1,false),(1,1,false),(2,1,false)]),
 (236,.ar 24 [.v (.int .u8 0),.v (.int .u8 0),.v (.int .u8 0),.v (.int .u8 0),.v (.int .u8 0),.v (.int .u8 0),.v (.int .u8 0),.v (.int .u8 0),.v (.int .u8 0),.v (.int .u8 0),.v (.int .u8 0),.v (.int .u8 0),.v (.int .u8 0),.v (.int .u8 0),.v (.int .u8 0),.v (.int .u8 0),.v (.int .u8 0),.v (.int .u8 0),.v (.int .u8 0),.v (.int .u8 0),.v (.int .u8 0),.v (.int .u8 0),.v (.int .u8 0),.v (.int .u8 0)] 24 1 false),
 (244,.int .i64),
 (254,.int .u64),
 (283,.ar 20 [.v (.int .u64 0),.v (.int .u64 0),.v (.int .u64 0),.v (.int .u64 0),.v (.int .u64 0),.v (.int .u64 0),.v (.int .u64 0),.v (.int .u64 0),.v (.int .u64 0),.v (.int .u64 0),.v (.int .u64 0),.v (.int .u64 0),.v (.int .u64 0),.v (.int .u64 0),.v (.int .u64 0),.v (.int .u64 0),.v (.int .u64 0),.v (.int .u64 0),.v (.int .u64 0),.v (.int .u64 0)] 20 1 false),
 (299,.st 2 [.v (.int .u8 0),.v (.int .u8 0)] [(0,1,false),(1,1,false)]),
 (300,.st 2 [.v (.int .u8 0),.v (.int .u8 0)] [(0,1,false),(1,1,false)]),
 (301,.ar 32 [.v (.int .u8 0),.v (.int .u8 0),.v (.int .u8 0),.v (.int .u8 0),.v (.int .u8 0),.v (.int .u8 0),.v (.int .u8 0),.v (.int .u8 0),.v (.int .u8 0),.v (.int .u8 0),.v (.int .u8 0),.v (.int .u8 0),.v (.int .u8 0),.v (.int .u8 0),.v (.int .u8 0),.v (.int .u8 0),.v (.int .u8 0),.v (.int .u8 0),.v (.int .u8 0),.v (.int .u8 0),.v (.int .u8 0),.v (.int .u8 0),.v (.int .u8 0),.v (.int .u8 0),.v (.int .u8 0),.v (.int .u8 0),.v (.int .u8 0),.v (.int .u8 0),.v (.int .u8 0),.v (.int .u8 0),.v (.int .u8 0),.v (.int .u8 0)] 16 2 true),
 (305,.st 1 [.v (.string "".toUTF8)] [(0,1,false)]),
 (306,.st 1 [.v (.string "".toUTF8)] [(0,1,false)]),
 (313,.ar 32 [.v (.int .u8 0),.v (.int .u8 0),.v (.int .u8 0),.v (.int .u8 0),.v (.int .u8 0),.v (.int .u8 0),.v (.int .u8 0),.v (.int .u8 0),.v (.int .u8 0),.v (.int .u8 0),.v (.int .u8 0),.v (.int .u8 0),.v (.int .u8 0),.v (.int .u8 0),.v (.int .u8 0),.v (.int .u8 0),.v (.int .u8 0),.v (.int .u8 0),.v (.int .u8 0),.v (.int .u8 0),.v (.int .u8 0),.v (.int .u8 0),.v (.int .u8 0),.v (.int .u8 0),.v (.int .u8 0),.v (.int .u8 0),.v (.int .u8 0),.v (.int .u8 0),.v (.int .u8 0),.v (.int .u8 0),.v (.int .u8 0),.v (.int .u8 0)] 32 1 false),
 (314,.ar 64 [.v (.int .u8 0),.v (.int .u8 0),.v (.int .u8 0),.v (.int .u8 0),.v (.int .u8 0),.v (.int .u8 0),.v (.int .u8 0),.v (.int .u8 0),.v (.int .u8 0),.v (.int .u8 0),.v (.int .u8 0),.v (.int .u8 0),.v (.int .u8 0),.v (.int .u8 0),.v (.int .u8 0),.v (.int .u8 0),.v (.int .u8 0),.v (.int .u8 0),.v (.int .u8 0),.v (.int .u8 0),.v (.int .u8 0),.v (.int .u8 0),.v (.int .u8 0),.v (.int .u8 0),.v (.int .u8 0),.v (.int .u8 0),.v (.int .u8 0),.v (.int .u8 0),.v (.int .u8 0),.v (.int .u8 0),.v (.int .u8 0),.v (.int .u8 0),.v (.int .u8 0),.v (.int .u8 0),.v (.int .u8 0),.v (.int .u8 0),.v (.int .u8 0),.v (.int .u8 0),.v (.int .u8 0),.v (.int .u8 0),.v (.int .u8 0),.v (.int .u8 0),.v (.int .u8 0),.v (.int .u8 0),.v (.int .u8 0),.v (.int .u8 0),.v (.int .u8 0),.v (.int .u8 0),.v (.int .u8 0),.v (.int .u8 0),.v (.int .u8 0),.v (.int .u8 0),.v (.int .u8 0),.v (.int .u8 0),.v (.int .u8 0),.v (.int .u8 0),.v (.int .u8 0),.v (.int .u8 0),.v (.int .u8 0),.v (.int .u8 0),.v (.int .u8 0),.v (.int .u8 0),.v (.int .u8 0),.v (.int .u8 0)] 64 1 false),
 (318,.st 4 [.v (.pointer none),.v (.pointer none),.v (.pointer none),.v (.string "".toUTF8)] [(0,1,false),(1,1,false),(2,1,false),(3,1,false)])]
theorem ty_all:TysOK Tryz.prog Ty:=⟨⟨Tryz.sizeOf2,Tryz.isAgg2,⟨_,Tryz.zeroValue2,fun _ _=>⟨.v _ rfl (wfB_iff rfl),trivial⟩⟩,Tryz.underlying2⟩,
 ⟨Tryz.sizeOf3,Tryz.isAgg3,⟨_,Tryz.zeroValue3,fun _ _=>⟨.v _ rfl (wfB_iff rfl),trivial⟩⟩,Tryz.underlying3⟩,
 ⟨Tryz.sizeOf4,Tryz.isAgg4,⟨_,Tryz.zeroValue4,fun _ _=>⟨.v _ rfl (wfB_iff rfl),trivial⟩⟩,Tryz.underlying4⟩,
 ⟨Tryz.sizeOf5,Tryz.isAgg5,⟨_,Tryz.zeroValue5,fun _ _=>⟨.v _ rfl (wfB_iff rfl),trivial⟩⟩,Tryz.underlying5⟩,
 ⟨Tryz.sizeOf9,Tryz.isAgg9,⟨_,Tryz.zeroValue9,fun _ _=>⟨.v _ rfl (wfB_iff rfl),trivial⟩⟩,trivial⟩,
 ⟨Tryz.sizeOf12,Tryz.isAgg12,⟨_,Tryz.zeroValue12,fun _ _=>⟨.v _ rfl (wfB_iff rfl),trivial⟩⟩,Tryz.underlying12⟩,
 ⟨Tryz.sizeOf21,Tryz.isAgg21,⟨_,Tryz.zeroValue21,fun _ _=>⟨.v _ rfl (wfB_iff rfl),trivial⟩⟩,Tryz.underlying21⟩,
 ⟨Tryz.sizeOf23,Tryz.isAgg23,⟨_,Tryz.zeroValue23,fun _ _=>⟨.v _ rfl (wfB_iff rfl),trivial⟩⟩,Tryz.underlying23⟩,
 ⟨Tryz.sizeOf24,Tryz.isAgg24,⟨_,Tryz.zeroValue24,fun _ _=>⟨.v _ rfl (wfB_iff rfl),.v _ rfl (wfB_iff rfl),trivial⟩⟩,st_ty Tryz.underlying24 rfl ⟨rfl,Tryz.sizeOf2,Tryz.isAgg2,rfl,Tryz.sizeOf2,Tryz.isAgg2,trivial⟩⟩,
 ⟨Tryz.sizeOf25,Tryz.isAgg25,⟨_,Tryz.zeroValue25,fun _ _=>⟨.v _ rfl (wfB_iff rfl),.v _ rfl (wfB_iff rfl),trivial⟩⟩,st_ty Tryz.underlying25 rfl ⟨rfl,Tryz.sizeOf2,Tryz.isAgg2,rfl,Tryz.sizeOf2,Tryz.isAgg2,trivial⟩⟩,
 ⟨Tryz.sizeOf26,Tryz.isAgg26,⟨_,Tryz.zeroValue26,fun _ _=>⟨.nl _,trivial⟩⟩,sl_ty Tryz.underlying26 Tryz.sizeOf31 Tryz.isAgg31 Tryz.zeroValue31 rfl (show Tryz.prog.info? 31=some Tryz.t31 by kernel_rfl) rfl rfl rfl (fun _ _=>⟨.v _ rfl (wfB_iff rfl),.v _ rfl (wfB_iff rfl),.v _ rfl (wfB_iff rfl),.v _ rfl (wfB_iff rfl),trivial⟩) rfl⟩,
 ⟨Tryz.sizeOf27,Tryz.isAgg27,⟨_,Tryz.zeroValue27,fun _ _=>⟨.v _ rfl (wfB_iff rfl),.v _ rfl (wfB_iff rfl),.v _ rfl (wfB_iff rfl),.v _ rfl (wfB_iff rfl),.v _ rfl (wfB_iff rfl),.nl _,trivial⟩⟩,st_ty Tryz.underlying27 rfl ⟨rfl,Tryz.sizeOf23,Tryz.isAgg23,rfl,Tryz.sizeOf3,Tryz.isAgg3,rfl,Tryz.sizeOf3,Tryz.isAgg3,rfl,Tryz.sizeOf25,Tryz.isAgg25,rfl,Tryz.sizeOf26,Tryz.isAgg26,trivial⟩⟩,
 ⟨Tryz.sizeOf28,Tryz.isAgg28,⟨_,Tryz.zeroValue28,fun _ _=>⟨.v _ rfl (wfB_iff rfl),.v _ rfl (wfB_iff rfl),.v _ rfl (wfB_iff rfl),.v _ rfl (wfB_iff rfl),.v _ rfl (wfB_iff rfl),.nl _,trivial⟩⟩,st_ty Tryz.underlying28 rfl ⟨rfl,Tryz.sizeOf23,Tryz.isAgg23,rfl,Tryz.sizeOf3,Tryz.isAgg3,rfl,Tryz.sizeOf3,Tryz.isAgg3,rfl,Tryz.sizeOf25,Tryz.isAgg25,rfl,Tryz.sizeOf26,Tryz.isAgg26,trivial⟩⟩,
 ⟨Tryz.sizeOf30,Tryz.isAgg30,⟨_,Tryz.zeroValue30,fun _ _=>⟨.v _ rfl (wfB_iff rfl),.v _ rfl (wfB_iff rfl),.v _ rfl (wfB_iff rfl),.v _ rfl (wfB_iff rfl),trivial⟩⟩,st_ty Tryz.underlying30 rfl ⟨rfl,Tryz.sizeOf25,Tryz.isAgg25,rfl,Tryz.sizeOf3,Tryz.isAgg3,rfl,Tryz.sizeOf3,Tryz.isAgg3,trivial⟩⟩,
 ⟨Tryz.sizeOf31,Tryz.isAgg31,⟨_,Tryz.zeroValue31,fun _ _=>⟨.v _ rfl (wfB_iff rfl),.v _ rfl (wfB_iff rfl),.v _ rfl (wfB_iff rfl),.v _ rfl (wfB_iff rfl),trivial⟩⟩,st_ty Tryz.underlying31 rfl ⟨rfl,Tryz.sizeOf25,Tryz.isAgg25,rfl,Tryz.sizeOf3,Tryz.isAgg3,rfl,Tryz.sizeOf3,Tryz.isAgg3,trivial⟩⟩,
 ⟨Tryz.sizeOf32,Tryz.isAgg32,⟨_,Tryz.zeroValue32,fun _ _=>⟨.nl _,trivial⟩⟩,sl_ty Tryz.underlying32 Tryz.sizeOf28 Tryz.isAgg28 Tryz.zeroValue28 rfl (show Tryz.prog.info? 28=some Tryz.t28 by kernel_rfl) rfl rfl rfl (fun _ _=>⟨.v _ rfl (wfB_iff rfl),.v _ rfl (wfB_iff rfl),.v _ rfl (wfB_iff rfl),.v _ rfl (wfB_iff rfl),.v _ rfl (wfB_iff rfl),.nl _,trivial⟩) rfl⟩,
 ⟨Tryz.sizeOf37,Tryz.isAgg37,⟨_,Tryz.zeroValue37,fun _ _=>⟨.nl _,trivial⟩⟩,sl_ty Tryz.underlying37 Tryz.sizeOf43 Tryz.isAgg43 Tryz.zeroValue43 rfl (show Tryz.prog.info? 43=some Tryz.t43 by kernel_rfl) rfl rfl rfl (fun _ _=>⟨.v _ rfl (wfB_iff rfl),.v _ rfl (wfB_iff rfl),.v _ rfl (wfB_iff rfl),trivial⟩) rfl⟩,
 ⟨Tryz.sizeOf38,Tryz.isAgg38,⟨_,Tryz.zeroValue38,fun _ _=>⟨.nl _,trivial⟩⟩,st_ty Tryz.underlying38 rfl ⟨rfl,Tryz.sizeOf37,Tryz.isAgg37,trivial⟩⟩,
 ⟨Tryz.sizeOf39,Tryz.isAgg39,⟨_,Tryz.zeroValue39,fun _ _=>⟨.nl _,trivial⟩⟩,st_ty Tryz.underlying39 rfl ⟨rfl,Tryz.sizeOf37,Tryz.isAgg37,trivial⟩⟩,
 ⟨Tryz.sizeOf40,Tryz.isAgg40,⟨_,Tryz.zeroValue40,fun _ _=>⟨.v _ rfl (wfB_iff rfl),.v _ rfl (wfB_iff rfl),.nl _,trivial⟩⟩,st_ty Tryz.underlying40 rfl ⟨rfl,Tryz.sizeOf25,Tryz.isAgg25,rfl,Tryz.sizeOf39,Tryz.isAgg39,trivial⟩⟩,
 ⟨Tryz.sizeOf41,Tryz.isAgg41,⟨_,Tryz.zeroValue41,fun _ _=>⟨.v _ rfl (wfB_iff rfl),.v _ rfl (wfB_iff rfl),.nl _,trivial⟩⟩,st_ty Tryz.underlying41 rfl ⟨rfl,Tryz.sizeOf25,Tryz.isAgg25,rfl,Tryz.sizeOf39,Tryz.isAgg39,trivial⟩⟩,
 ⟨Tryz.sizeOf42,Tryz.isAgg42,⟨_,Tryz.zeroValue42,fun _ _=>⟨.v _ rfl (wfB_iff rfl),.v _ rfl (wfB_iff rfl),.v _ rfl (wfB_iff rfl),trivial⟩⟩,st_ty Tryz.underlying42 rfl ⟨rfl,Tryz.sizeOf3,Tryz.isAgg3,rfl,Tryz.sizeOf2,Tryz.isAgg2,rfl,Tryz.sizeOf2,Tryz.isAgg2,trivial⟩⟩,
 ⟨Tryz.sizeOf43,Tryz.isAgg43,⟨_,Tryz.zeroValue43,fun _ _=>⟨.v _ rfl (wfB_iff rfl),.v _ rfl (wfB_iff rfl),.v _ rfl (wfB_iff rfl),trivial⟩⟩,st_ty Tryz.underlying43 rfl ⟨rfl,Tryz.sizeOf3,Tryz.isAgg3,rfl,Tryz.sizeOf2,Tryz.isAgg2,rfl,Tryz.sizeOf2,Tryz.isAgg2,trivial⟩⟩,
 ⟨Tryz.sizeOf45,Tryz.isAgg45,⟨_,Tryz.zeroValue45,fun _ _=>⟨.nl _,trivial⟩⟩,sl_ty Tryz.underlying45 Tryz.sizeOf5 Tryz.isAgg5 Tryz.zeroValue5 rfl (show Tryz.prog.info? 5=some Tryz.t5 by kernel_rfl) rfl rfl rfl (fun _ _=>⟨.v _ rfl (wfB_iff rfl),trivial⟩) rfl⟩,
 ⟨Tryz.sizeOf53,Tryz.isAgg53,⟨_,Tryz.zeroValue53,fun _ _=>⟨.v _ rfl (wfB_iff rfl),.v _ rfl (wfB_iff rfl),.v _ rfl (wfB_iff rfl),.v _ rfl (wfB_iff rfl),.v _ rfl (wfB_iff rfl),.v _ rfl (wfB_iff rfl),.v _ rfl (wfB_iff rfl),trivial⟩⟩,st_ty Tryz.underlying53 rfl ⟨rfl,Tryz.sizeOf5,Tryz.isAgg5,rfl,Tryz.sizeOf43,Tryz.isAgg43,rfl,Tryz.sizeOf3,Tryz.isAgg3,rfl,Tryz.sizeOf25,Tryz.isAgg25,trivial⟩⟩,
 ⟨Tryz.sizeOf54,Tryz.isAgg54,⟨_,Tryz.zeroValue54,fun _ _=>⟨.v _ rfl (wfB_iff rfl),.v _ rfl (wfB_iff rfl),.v _ rfl (wfB_iff rfl),.v _ rfl (wfB_iff rfl),.v _ rfl (wfB_iff rfl),.v _ rfl (wfB_iff rfl),.v _ rfl (wfB_iff rfl),trivial⟩⟩,st_ty Tryz.underlying54 rfl ⟨rfl,Tryz.sizeOf5,Tryz.isAgg5,rfl,Tryz.sizeOf43,Tryz.isAgg43,rfl,Tryz.sizeOf3,Tryz.isAgg3,rfl,Tryz.sizeOf25,Tryz.isAgg25,trivial⟩⟩,
 ⟨Tryz.sizeOf58,Tryz.isAgg58,⟨_,Tryz.zeroValue58,fun _ _=>⟨.nl _,trivial⟩⟩,sl_ty Tryz.underlying58 Tryz.sizeOf54 Tryz.isAgg54 Tryz.zeroValue54 rfl (show Tryz.prog.info? 54=some Tryz.t54 by kernel_rfl) rfl rfl rfl (fun _ _=>⟨.v _ rfl (wfB_iff rfl),.v _ rfl (wfB_iff rfl),.v _ rfl (wfB_iff rfl),.v _ rfl (wfB_iff rfl),.v _ rfl (wfB_iff rfl),.v _ rfl (wfB_iff rfl),.v _ rfl (wfB_iff rfl),trivial⟩) rfl⟩,
 ⟨Tryz.sizeOf63,Tryz.isAgg63,⟨_,Tryz.zeroValue63,fun _ _=>⟨.nl _,trivial⟩⟩,sl_ty Tryz.underlying63 Tryz.sizeOf9 Tryz.isAgg9 Tryz.zeroValue9 rfl (show Tryz.prog.info? 9=some Tryz.t9 by kernel_rfl) rfl rfl rfl (fun _ _=>⟨.v _ rfl (wfB_iff rfl),trivial⟩) rfl⟩,
 ⟨Tryz.sizeOf74,Tryz.isAgg74,⟨_,Tryz.zeroValue74,fun _ _=>⟨.nl _,trivial⟩⟩,sl_ty Tryz.underlying74 Tryz.sizeOf3 Tryz.isAgg3 Tryz.zeroValue3 rfl (show Tryz.prog.info? 3=some Tryz.t3 by kernel_rfl) rfl rfl rfl (fun _ _=>⟨.v _ rfl (wfB_iff rfl),trivial⟩) rfl⟩,
 ⟨Tryz.sizeOf121,Tryz.isAgg121,⟨_,Tryz.zeroValue121,fun _ _=>⟨.v _ rfl (wfB_iff rfl),trivial⟩⟩,Tryz.underlying121⟩,
 ⟨Tryz.sizeOf122,Tryz.isAgg122,⟨_,Tryz.zeroValue122,fun _ _=>⟨.v _ rfl (wfB_iff rfl),.v _ rfl (wfB_iff rfl),trivial⟩⟩,st_ty Tryz.underlying122 rfl ⟨rfl,Tryz.sizeOf2,Tryz.isAgg2,rfl,Tryz.sizeOf121,Tryz.isAgg121,trivial⟩⟩,
 ⟨Tryz.sizeOf123,Tryz.isAgg123,⟨_,Tryz.zeroValue123,fun _ _=>⟨.v _ rfl (wfB_iff rfl),.v _ rfl (wfB_iff rfl),trivial⟩⟩,st_ty Tryz.underlying123 rfl ⟨rfl,Tryz.sizeOf2,Tryz.isAgg2,rfl,Tryz.sizeOf121,Tryz.isAgg121,trivial⟩⟩,
 ⟨Tryz.sizeOf125,Tryz.isAgg125,⟨_,Tryz.zeroValue125,fun _ _=>⟨.v _ rfl (wfB_iff rfl),.v _ rfl (wfB_iff rfl),trivial⟩⟩,⟨_,Tryz.underlying125,Tryz.sizeOf2,Tryz.isAgg2⟩⟩,
 ⟨Tryz.sizeOf126,Tryz.isAgg126,⟨_,Tryz.zeroValue126,fun _ _=>⟨.v _ rfl (wfB_iff rfl),.v _ rfl (wfB_iff rfl),.v _ rfl (wfB_iff rfl),.v _ rfl (wfB_iff rfl),trivial⟩⟩,⟨_,Tryz.underlying126,Tryz.sizeOf125,Tryz.isAgg125⟩⟩,
 ⟨Tryz.sizeOf152,Tryz.isAgg152,⟨_,Tryz.zeroValue152,fun _ _=>⟨.v _ rfl (wfB_iff rfl),trivial⟩⟩,Tryz.underlying152⟩,
 ⟨Tryz.sizeOf158,Tryz.isAgg158,⟨_,Tryz.zeroValue158,fun _ _=>⟨.v _ rfl (wfB_iff rfl),.nl _,trivial⟩⟩,st_ty Tryz.underlying158 rfl ⟨rfl,Tryz.sizeOf157,Tryz.isAgg157,rfl,Tryz.sizeOf45,Tryz.isAgg45,trivial⟩⟩,
 ⟨Tryz.sizeOf159,Tryz.isAgg159,⟨_,Tryz.zeroValue159,fun _ _=>⟨.v _ rfl (wfB_iff rfl),.nl _,trivial⟩⟩,st_ty Tryz.underlying159 rfl ⟨rfl,Tryz.sizeOf157,Tryz.isAgg157,rfl,Tryz.sizeOf45,Tryz.isAgg45,trivial⟩⟩,
 ⟨Tryz.sizeOf185,Tryz.isAgg185,⟨_,Tryz.zeroValue185,fun _ _=>⟨.nl _,trivial⟩⟩,sl_ty Tryz.underlying185 Tryz.sizeOf23 Tryz.isAgg23 Tryz.zeroValue23 rfl (show Tryz.prog.info? 23=some Tryz.t23 by kernel_rfl) rfl rfl rfl (fun _ _=>⟨.v _ rfl (wfB_iff rfl),trivial⟩) rfl⟩,
 ⟨Tryz.sizeOf201,Tryz.isAgg201,⟨_,Tryz.zeroValue201,fun _ _=>⟨.v _ rfl (wfB_iff rfl),.v _ rfl (wfB_iff rfl),.v _ rfl (wfB_iff rfl),trivial⟩⟩,st_ty Tryz.underlying201 rfl ⟨rfl,Tryz.sizeOf4,Tryz.isAgg4,rfl,Tryz.sizeOf121,Tryz.isAgg121,rfl,Tryz.sizeOf121,Tryz.isAgg121,trivial⟩⟩,
 ⟨Tryz.sizeOf202,Tryz.isAgg202,⟨_,Tryz.zeroValue202,fun _ _=>⟨.v _ rfl (wfB_iff rfl),.v _ rfl (wfB_iff rfl),.v _ rfl (wfB_iff rfl),trivial⟩⟩,st_ty Tryz.underlying202 rfl ⟨rfl,Tryz.sizeOf4,Tryz.isAgg4,rfl,Tryz.sizeOf121,Tryz.isAgg121,rfl,Tryz.sizeOf121,Tryz.isAgg121,trivial⟩⟩,
 ⟨Tryz.sizeOf205,Tryz.isAgg205,⟨_,Tryz.zeroValue205,fun _ _=>⟨.v _ rfl (wfB_iff rfl),trivial⟩⟩,Tryz.underlying205⟩,
 ⟨Tryz.sizeOf212,Tryz.isAgg212,⟨_,Tryz.zeroValue212,fun _ _=>⟨.v _ rfl (wfB_iff rfl),trivial⟩⟩,Tryz.underlying212⟩,
 ⟨Tryz.sizeOf213,Tryz.isAgg213,⟨_,Tryz.zeroValue213,fun _ _=>⟨.nl _,trivial⟩⟩,sl_ty Tryz.underlying213 Tryz.sizeOf25 Tryz.isAgg25 Tryz.zeroValue25 rfl (show Tryz.prog.info? 25=some Tryz.t25 by kernel_rfl) rfl rfl rfl (fun _ _=>⟨.v _ rfl (wfB_iff rfl),.v _ rfl (wfB_iff rfl),trivial⟩) rfl⟩,
 ⟨Tryz.sizeOf229,Tryz.isAgg229,⟨_,Tryz.zeroValue229,fun _ _=>⟨.v _ rfl (wfB_iff rfl),.v _ rfl (wfB_iff rfl),.v _ rfl (wfB_iff rfl),trivial⟩⟩,st_ty Tryz.underlying229 rfl ⟨rfl,Tryz.sizeOf4,Tryz.isAgg4,rfl,Tryz.sizeOf121,Tryz.isAgg121,rfl,Tryz.sizeOf121,Tryz.isAgg121,trivial⟩⟩,
 ⟨Tryz.sizeOf230,Tryz.isAgg230,⟨_,Tryz.zeroValue230,fun _ _=>⟨.v _ rfl (wfB_iff rfl),.v _ rfl (wfB_iff rfl),.v _ rfl (wfB_iff rfl),trivial⟩⟩,st_ty Tryz.underlying230 rfl ⟨rfl,Tryz.sizeOf4,Tryz.isAgg4,rfl,Tryz.sizeOf121,Tryz.isAgg121,rfl,Tryz.sizeOf121,Tryz.isAgg121,trivial⟩⟩,
 ⟨Tryz.sizeOf236,Tryz.isAgg236,⟨_,Tryz.zeroValue236,fun _ _=>⟨.v _ rfl (wfB_iff rfl),.v _ rfl (wfB_iff rfl),.v _ rfl (wfB_iff rfl),.v _ rfl (wfB_iff rfl),.v _ rfl (wfB_iff rfl),.v _ rfl (wfB_iff rfl),.v _ rfl (wfB_iff rfl),.v _ rfl (wfB_iff rfl),.v _ rfl (wfB_iff rfl),.v _ rfl (wfB_iff rfl),.v _ rfl (wfB_iff rfl),.v _ rfl (wfB_iff rfl),.v _ rfl (wfB_iff rfl),.v _ rfl (wfB_iff rfl),.v _ rfl (wfB_iff rfl),.v _ rfl (wfB_iff rfl),.v _ rfl (wfB_iff rfl),.v _ rfl (wfB_iff rfl),.v _ rfl (wfB_iff rfl),.v _ rfl (wfB_iff rfl),.v _ rfl (wfB_iff rfl),.v _ rfl (wfB_iff rfl),.v _ rfl (wfB_iff rfl),.v _ rfl (wfB_iff rfl),trivial⟩⟩,⟨_,Tryz.underlying236,Tryz.sizeOf5,Tryz.isAgg5⟩⟩,
 ⟨Tryz.sizeOf244,Tryz.isAgg244,⟨_,Tryz.zeroValue244,fun _ _=>⟨.v _ rfl (wfB_iff rfl),trivial⟩⟩,Tryz.underlying244⟩,
 ⟨Tryz.sizeOf254,Tryz.isAgg254,⟨_,Tryz.zeroValue254,fun _ _=>⟨.v _ rfl (wfB_iff rfl),trivial⟩⟩,Tryz.underlying254⟩,
 ⟨Tryz.sizeOf283,Tryz.isAgg283,⟨_,Tryz.zeroValue283,fun _ _=>⟨.v _ rfl (wfB_iff rfl),.v _ rfl (wfB_iff rfl),.v _ rfl (wfB_iff rfl),.v _ rfl (wfB_iff rfl),.v _ rfl (wfB_iff rfl),.v _ rfl (wfB_iff rfl),.v _ rfl (wfB_iff rfl),.v _ rfl (wfB_iff rfl),.v _ rfl (wfB_iff rfl),.v _ rfl (wfB_iff rfl),.v _ rfl (wfB_iff rfl),.v _ rfl (wfB_iff rfl),.v _ rfl (wfB_iff rfl),.v _ rfl (wfB_iff rfl),.v _ rfl (wfB_iff rfl),.v _ rfl (wfB_iff rfl),.v _ rfl (wfB_iff rfl),.v _ rfl (wfB_iff rfl),.v _ rfl (wfB_iff rfl),.v _ rfl (wfB_iff rfl),trivial⟩⟩,⟨_,Tryz.underlying283,Tryz.sizeOf121,Tryz.isAgg121⟩⟩,
 ⟨Tryz.sizeOf299,Tryz.isAgg299,⟨_,Tryz.zeroValue299,fun _ _=>⟨.v _ rfl (wfB_iff rfl),.v _ rfl (wfB_iff rfl),trivial⟩⟩,st_ty Tryz.underlying299 rfl ⟨rfl,Tryz.sizeOf5,Tryz.isAgg5,rfl,Tryz.sizeOf5,Tryz.isAgg5,trivial⟩⟩,
 ⟨Tryz.sizeOf300,Tryz.isAgg300,⟨_,Tryz.zeroValue300,fun _ _=>⟨.v _ rfl (wfB_iff rfl),.v _ rfl (wfB_iff rfl),trivial⟩⟩,st_ty Tryz.underlying300 rfl ⟨rfl,Tryz.sizeOf5,Tryz.isAgg5,rfl,Tryz.sizeOf5,Tryz.isAgg5,trivial⟩⟩,
 ⟨Tryz.sizeOf301,Tryz.isAgg301,⟨_,Tryz.zeroValue301,fun _ _=>⟨.v _ rfl (wfB_iff rfl),.v _ rfl (wfB_iff rfl),.v _ rfl (wfB_iff rfl),.v _ rfl (wfB_iff rfl),.v _ rfl (wfB_iff rfl),.v _ rfl (wfB_iff rfl),.v _ rfl (wfB_iff rfl),.v _ rfl (wfB_iff rfl),.v _ rfl (wfB_iff rfl),.v _ rfl (wfB_iff rfl),.v _ rfl (wfB_iff rfl),.v _ rfl (wfB_iff rfl),.v _ rfl (wfB_iff rfl),.v _ rfl (wfB_iff rfl),.v _ rfl (wfB_iff rfl),.v _ rfl (wfB_iff rfl),.v _ rfl (wfB_iff rfl),.v _ rfl (wfB_iff rfl),.v _ rfl (wfB_iff rfl),.v _ rfl (wfB_iff rfl),.v _ rfl (wfB_iff rfl),.v _ rfl (wfB_iff rfl),.v _ rfl (wfB_iff rfl),.v _ rfl (wfB_iff rfl),.v _ rfl (wfB_iff rfl),.v _ rfl (wfB_iff rfl),.v _ rfl (wfB_iff rfl),.v _ rfl (wfB_iff rfl),.v _ rfl (wfB_iff rfl),.v _ rfl (wfB_iff rfl),.v _ rfl (wfB_iff rfl),.v _ rfl (wfB_iff rfl),trivial⟩⟩,⟨_,Tryz.underlying301,Tryz.sizeOf300,Tryz.isAgg300⟩⟩,
 ⟨Tryz.sizeOf305,Tryz.isAgg305,⟨_,Tryz.zeroValue305,fun _ _=>⟨.v _ rfl (wfB_iff rfl),trivial⟩⟩,st_ty Tryz.underlying305 rfl ⟨rfl,Tryz.sizeOf9,Tryz.isAgg9,trivial⟩⟩,
 ⟨Tryz.sizeOf306,Tryz.isAgg306,⟨_,Tryz.zeroValue306,fun _ _=>⟨.v _ rfl (wfB_iff rfl),trivial⟩⟩,st_ty Tryz.underlying306 rfl ⟨rfl,Tryz.sizeOf9,Tryz.isAgg9,trivial⟩⟩,
 ⟨Tryz.sizeOf313,Tryz.isAgg313,⟨_,Tryz.zeroValue313,fun _ _=>⟨.v _ rfl (wfB_iff rfl),.v _ rfl (wfB_iff rfl),.v _ rfl (wfB_iff rfl),.v _ rfl (wfB_iff rfl),.v _ rfl (wfB_iff rfl),.v _ rfl (wfB_iff rfl),.v _ rfl (wfB_iff rfl),.v _ rfl (wfB_iff rfl),.v _ rfl (wfB_iff rfl),.v _ rfl (wfB_iff rfl),.v _ rfl (wfB_iff rfl),.v _ rfl (wfB_iff rfl),.v _ rfl (wfB_iff rfl),.v _ rfl (wfB_iff rfl),.v _ rfl (wfB_iff rfl),.v _ rfl (wfB_iff rfl),.v _ rfl (wfB_iff rfl),.v _ rfl (wfB_iff rfl),.v _ rfl (wfB_iff rfl),.v _ rfl (wfB_iff rfl),.v _ rfl (wfB_iff rfl),.v _ rfl (wfB_iff rfl),.v _ rfl (wfB_iff rfl),.v _ rfl (wfB_iff rfl),.v _ rfl (wfB_iff rfl),.v _ rfl (wfB_iff rfl),.v _ rfl (wfB_iff rfl),.v _ rfl (wfB_iff rfl),.v _ rfl (wfB_iff rfl),.v _ rfl (wfB_iff rfl),.v _ rfl (wfB_iff rfl),.v _ rfl (wfB_iff rfl),trivial⟩⟩,⟨_,Tryz.underlying313,Tryz.sizeOf5,Tryz.isAgg5⟩⟩,
 ⟨Tryz.sizeOf314,Tryz.isAgg314,⟨_,Tryz.zeroValue314,fun _ _=>⟨.v _ rfl (wfB_iff rfl),.v _ rfl (wfB_iff rfl),.v _ rfl (wfB_iff rfl),.v _ rfl (wfB_iff rfl),.v _ rfl (wfB_iff rfl),.v _ rfl (wfB_iff rfl),.v _ rfl (wfB_iff rfl),.v _ rfl (wfB_iff rfl),.v _ rfl (wfB_iff rfl),.v _ rfl (wfB_iff rfl),.v _ rfl (wfB_iff rfl),.v _ rfl (wfB_iff rfl),.v _ rfl (wfB_iff rfl),.v _ rfl (wfB_iff rfl),.v _ rfl (wfB_iff rfl),.v _ rfl (wfB_iff rfl),.v _ rfl (wfB_iff rfl),.v _ rfl (wfB_iff rfl),.v _ rfl (wfB_iff rfl),.v _ rfl (wfB_iff rfl),.v _ rfl (wfB_iff rfl),.v _ rfl (wfB_iff rfl),.v _ rfl (wfB_iff rfl),.v _ rfl (wfB_iff rfl),.v _ rfl (wfB_iff rfl),.v _ rfl (wfB_iff rfl),.v _ rfl (wfB_iff rfl),.v _ rfl (wfB_iff rfl),.v _ rfl (wfB_iff rfl),.v _ rfl (wfB_iff rfl),.v _ rfl (wfB_iff rfl),.v _ rfl (wfB_iff rfl),.v _ rfl (wfB_iff rfl),.v _ rfl (wfB_iff rfl),.v _ rfl (wfB_iff rfl),.v _ rfl (wfB_iff rfl),.v _ rfl (wfB_iff rfl),.v _ rfl (wfB_iff rfl),.v _ rfl (wfB_iff rfl),.v _ rfl (wfB_iff rfl),.v _ rfl (wfB_iff rfl),.v _ rfl (wfB_iff rfl),.v _ rfl (wfB_iff rfl),.v _ rfl (wfB_iff rfl),.v _ rfl (wfB_iff rfl),.v _ rfl (wfB_iff rfl),.v _ rfl (wfB_iff rfl),.v _ rfl (wfB_iff rfl),.v _ rfl (wfB_iff rfl),.v _ rfl (wfB_iff rfl),.v _ rfl (wfB_iff rfl),.v _ rfl (wfB_iff rfl),.v _ rfl (wfB_iff rfl),.v _ rfl (wfB_iff rfl),.v _ rfl (wfB_iff rfl),.v _ rfl (wfB_iff rfl),.v _ rfl (wfB_iff rfl),.v _ rfl (wfB_iff rfl),.v _ rfl (wfB_iff rfl),.v _ rfl (wfB_iff rfl),.v _ rfl (wfB_iff rfl),.v _ rfl (wfB_iff rfl),.v _ rfl (wfB_iff rfl),.v _ rfl (wfB_iff rfl),trivial⟩⟩,⟨_,Tryz.underlying314,Tryz.sizeOf5,Tryz.isAgg5⟩⟩,
 ⟨Tryz.sizeOf318,Tryz.isAgg318,⟨_,Tryz.zeroValue318,fun _ _=>⟨.v _ rfl (wfB_iff rfl),.v _ rfl (wfB_iff rfl),.v _ rfl (wfB_iff rfl),.v _ rfl (wfB_iff rfl),trivial⟩⟩,st_ty Tryz.underlying318 rfl ⟨rfl,Tryz.sizeOf17,Tryz.isAgg17,rfl,Tryz.sizeOf17,Tryz.isAgg17,rfl,Tryz.sizeOf17,Tryz.isAgg17,rfl,Tryz.sizeOf9,Tryz.isAgg9,trivial⟩⟩,trivial⟩
theorem ty_okK (K mu co me:List Nat):ΓOK Tryz.prog ⟨Ty,K,mu,co,me,false⟩:=tys_ok ty_all
theorem ty_okD:ΓOK Tryz.prog ⟨Ty,[],[],[],[],true⟩:=tys_ok ty_all
theorem ty_ok:ΓOK Tryz.prog ⟨Ty,[],[],[],[],false⟩:=tys_ok ty_all
theorem eqv25 (a0 b0:Int) (a1 b1:Int) (x y:Operand) (w:World):(do eqGuard .eql 25 x y (.agg #[.int .i64 a0,.int .i64 a1]) (.agg #[.int .i64 b0,.int .i64 b1]);binOp .eql 25 (.agg #[.int .i64 a0,.int .i64 a1]) (.agg #[.int .i64 b0,.int .i64 b1]):Sem Value).run Tryz.prog w=.ok (.bool (decide (a0=b0∧a1=b1))) w:=by
 by_cases h0:a0=b0
 ·skip
  by_cases h1:a1=b1
  ·skip
   simp [go_sem,eqGuard,binOp,Op.equal,Op.maxDepth,h0,h1]
  ·simp [go_sem,eqGuard,binOp,Op.equal,Op.maxDepth,h0,h1]
 ·simp [go_sem,eqGuard,binOp,Op.equal,Op.maxDepth,h0]
theorem nev25 (a0 b0:Int) (a1 b1:Int) (x y:Operand) (w:World):(do eqGuard .neq 25 x y (.agg #[.int .i64 a0,.int .i64 a1]) (.agg #[.int .i64 b0,.int .i64 b1]);binOp .neq 25 (.agg #[.int .i64 a0,.int .i64 a1]) (.agg #[.int .i64 b0,.int .i64 b1]):Sem Value).run Tryz.prog w=.ok (.bool (decide (¬ (a0=b0∧a1=b1)))) w:=by
 by_cases h0:a0=b0
 ·skip
  by_cases h1:a1=b1
  ·skip
   simp [go_sem,eqGuard,binOp,Op.equal,Op.maxDepth,h0,h1]
  ·simp [go_sem,eqGuard,binOp,Op.equal,Op.maxDepth,h0,h1]
 ·simp [go_sem,eqGuard,binOp,Op.equal,Op.maxDepth,h0]
theorem nev31 (a0 b0:Int) (a1 b1:Int) (a2 b2:Int) (a3 b3:Int) (x y:Operand) (w:World):(do eqGuard .neq 31 x y (.agg #[.int .i64 a0,.int .i64 a1,.int .i64 a2,.int .i64 a3]) (.agg #[.int .i64 b0,.int .i64 b1,.int .i64 b2,.int .i64 b3]);binOp .neq 31 (.agg #[.int .i64 a0,.int .i64 a1,.int .i64 a2,.int .i64 a3]) (.agg #[.int .i64 b0,.int .i64 b1,.int .i64 b2,.int .i64 b3]):Sem Value).run Tryz.prog w=.ok (.bool (decide (¬ (a0=b0∧a1=b1∧a2=b2∧a3=b3)))) w:=by
 by_cases h0:a0=b0
 ·skip
  by_cases h1:a1=b1
  ·skip
   by_cases h2:a2=b2
   ·skip
    by_cases h3:a3=b3
    ·skip
     simp [go_sem,eqGuard,binOp,Op.equal,Op.maxDepth,h0,h1,h2,h3]
    ·simp [go_sem,eqGuard,binOp,Op.equal,Op.maxDepth,h0,h1,h2,h3]
   ·simp [go_sem,eqGuard,binOp,Op.equal,Op.maxDepth,h0,h1,h2]
  ·simp [go_sem,eqGuard,binOp,Op.equal,Op.maxDepth,h0,h1]
 ·simp [go_sem,eqGuard,binOp,Op.equal,Op.maxDepth,h0]
theorem nev43 (a0 b0:Int) (a1 b1:Int) (a2 b2:Int) (x y:Operand) (w:World):(do eqGuard .neq 43 x y (.agg #[.int .i64 a0,.int .i64 a1,.int .i64 a2]) (.agg #[.int .i64 b0,.int .i64 b1,.int .i64 b2]);binOp .neq 43 (.agg #[.int .i64 a0,.int .i64 a1,.int .i64 a2]) (.agg #[.int .i64 b0,.int .i64 b1,.int .i64 b2]):Sem Value).run Tryz.prog w=.ok (.bool (decide (¬ (a0=b0∧a1=b1∧a2=b2)))) w:=by
 by_cases h0:a0=b0
 ·skip
  by_cases h1:a1=b1
  ·skip
   by_cases h2:a2=b2
   ·skip
    simp [go_sem,eqGuard,binOp,Op.equal,Op.maxDepth,h0,h1,h2]
   ·simp [go_sem,eqGuard,binOp,Op.equal,Op.maxDepth,h0,h1,h2]
  ·simp [go_sem,eqGuard,binOp,Op.equal,Op.maxDepth,h0,h1]
 ·simp [go_sem,eqGuard,binOp,Op.equal,Op.maxDepth,h0]
theorem nev123 (a0 b0:Int) (a1 b1:Int) (x y:Operand) (w:World):(do eqGuard .neq 123 x y (.agg #[.int .i64 a0,.int .u64 a1]) (.agg #[.int .i64 b0,.int .u64 b1]);binOp .neq 123 (.agg #[.int .i64 a0,.int .u64 a1]) (.agg #[.int .i64 b0,.int .u64 b1]):Sem Value).run Tryz.prog w=.ok (.bool (decide (¬ (a0=b0∧a1=b1)))) w:=by
 by_cases h0:a0=b0
 ·skip
  by_cases h1:a1=b1
  ·skip
   simp [go_sem,eqGuard,binOp,Op.equal,Op.maxDepth,h0,h1]
  ·simp [go_sem,eqGuard,binOp,Op.equal,Op.maxDepth,h0,h1]
 ·simp [go_sem,eqGuard,binOp,Op.equal,Op.maxDepth,h0]
end Sx
end Go.Proofs.YtfkfficabeclcaaGreatDoor

namespace Go.Proofs.YtfkfficabeclcaaGreatDoor
open Go.RowKit Go.Sort
theorem gcd_any (a b:Nat) (w:World) :
  Calls Tryz.prog 80 #[.int .u64 a,.int .u64 b] w fun e w'=>e=.returned (.int .u64 (Nat.gcd a b:Nat))∧Below w.heap.size w w':=by
 go_enter Tryz.func80,Tryz.ntmps80
 go_wp2
 go_loopw [0,1] (fun x y wr=>∃ n m:Nat,x=.int .u64 n∧y=.int .u64 m∧Hid (Nat.gcd n m=Nat.gcd a b)∧Below w.heap.size w wr) (fun _ y _=>(intOf y).toNat)
 case atStart=>exact ⟨a,b,rfl,rfl,Lib.hid rfl,Below.refl _ _⟩
 case round =>
  obtain ⟨n,m,rfl,rfl,hg,hb⟩:=hrel
  by_cases h0:0<m
  ·go_wp2
   go_quiet (fail)
   go_wp2
   have hlt:=Nat.mod_lt n h0
   refine ⟨⟨m,n % m,rfl,by simp,Lib.hid ?_,below_drewN hb _⟩,?_⟩
   ·rw [← hg.out,Nat.gcd_comm n m,Nat.gcd_rec m n,Nat.gcd_comm]
   ·show ((n:Int) % (m:Int)).toNat<((m:Int)).toNat
    omega
  ·go_wp2
   go_ret
   refine ⟨ret_int ?_,hb⟩
   rw [← hg.out]
   obtain rfl:m=0:=by omega
   simp
theorem abs_any (n:Int) (w:World) (h0 : -9223372036854775808≤n) (h1:n≤9223372036854775807) :
  Calls Tryz.prog 81 #[.int .i64 n] w fun e w'=>e=.returned (.int .u64 (n.natAbs:Nat))∧Below w.heap.size w w':=by
 have HW:Hid (n<0→IntKind.u64.wrap (-IntKind.u64.wrap n)=(n.natAbs:Nat)):=Lib.hid (by
  intro hn
  rw [IntKind.wrap_u64,IntKind.wrap_u64]
  omega)
 by_cases hn:n<0
 ·go_enter Tryz.func81,Tryz.ntmps81
  go_wp2
  go_ret
  exact ⟨ret_int (HW.out hn),Below.refl _ _⟩
 ·go_enter Tryz.func81,Tryz.ntmps81
  go_wp2
  go_ret
  refine ⟨ret_int ?_,Below.refl _ _⟩
  omega
def chk (n d:Int):Int:=if d<1∨n = -9223372036854775808∨1<Nat.gcd d.toNat n.natAbs then 8 else 0
theorem check_any (n d:Int) (w:World) (h0 : -9223372036854775808≤n) (h1:n≤9223372036854775807) (h2 : -9223372036854775808≤d) (h3:d≤9223372036854775807) :
  Calls Tryz.prog 40 #[.agg #[.int .i64 n,.int .i64 d]] w fun e w'=>e=.returned (.int .i64 (chk n d))∧Below w.heap.size w w':=by
 by_cases hd:d<1
 ·have hch:chk n d=8:=by unfold chk;rw [if_pos (.inl hd)]
  rw [hch]
  go_enter Tryz.func40,Tryz.ntmps40
  go_wp2
  refine wp_region_quiet_below (by kernel_rfl) (by kernel_rfl) ?_
  repeat (go_big_quiet_step (fail))
  refine wpQuiet_nil ?_
  intro _ hw'
  obtain ⟨⟨dq,osq⟩,hw''⟩:=hw'
  subst hw''
  go_wp2
  go_ret
  exact ⟨rfl,below_reg (below_alloc (Below.refl _ _) _) _ _⟩
 ·have hdf:decide (d<1)=false:=by simpa using hd
  by_cases hm:n = -9223372036854775808
  ·have hch:chk n d=8:=by unfold chk;rw [if_pos (.inr (.inl hm))]
   rw [hch]
   have hmb:(n == -9223372036854775808)=true:=by simpa using hm
   clear hm
   go_enter Tryz.func40,Tryz.ntmps40
   go_wp2
   refine wp_region_quiet_below (by kernel_rfl) (by kernel_rfl) ?_
   repeat (go_big_quiet_step (fail))
   refine wpQuiet_nil ?_
   intro _ hw'
   obtain ⟨⟨dq,osq⟩,hw''⟩:=hw'
   subst hw''
   go_wp2
   go_ret
   exact ⟨rfl,below_reg (below_alloc (Below.refl _ _) _) _ _⟩
  ·have hmb:(n == -9223372036854775808)=false:=by simpa using hm
   obtain ⟨e,rfl⟩:=Int.eq_ofNat_of_zero_le (show 0≤d by omega)
   by_cases hg:1<Nat.gcd e n.natAbs
   ·have hch:chk n e=8:=by unfold chk;rw [if_pos (.inr (.inr (by simpa using hg)))]
    rw [hch]
    clear hm
    go_enter Tryz.func40,Tryz.ntmps40
    go_wp2
    refine wp_region_quiet_below (by kernel_rfl) (by kernel_rfl) ?_
    repeat (go_big_quiet_step (first|(go_at_call 81;(with_reducible refine Calls.regrown_of (abs_any _ _ ?_ ?_));omega;omega)|(go_at_call 80;(with_reducible refine Calls.regrown_of (gcd_any _ _ _)))))
    refine wpQuiet_nil ?_
    intro _ hw'
    obtain ⟨⟨dq,osq⟩,hw''⟩:=hw'
    subst hw''
    go_wp2
    go_ret
    exact ⟨rfl,below_reg (below_alloc (Below.refl _ _) _) _ _⟩
   ·have hch:chk n e=0:=by unfold chk;rw [if_neg (by rintro (h|h|h)<;>first|omega|exact hm h|exact hg (by simpa using h))]
    rw [hch]
    clear hm
    go_enter Tryz.func40,Tryz.ntmps40
    go_wp2
    refine wp_region_quiet_below (by kernel_rfl) (by kernel_rfl) ?_
    repeat (go_big_quiet_step (first|(go_at_call 81;(with_reducible refine Calls.regrown_of (abs_any _ _ ?_ ?_));omega;omega)|(go_at_call 80;(with_reducible refine Calls.regrown_of (gcd_any _ _ _)))))
    refine wpQuiet_nil ?_
    intro _ hw'
    obtain ⟨⟨dq,osq⟩,hw''⟩:=hw'
    subst hw''
    go_wp2
    go_ret
    exact ⟨rfl,below_reg (below_alloc (Below.refl _ _) _) _ _⟩
end Go.Proofs.YtfkfficabeclcaaGreatDoor
