import Derived.Shelf.Small.Strs
import Derived.Test.YtlpmfkpefoegeacDoorQLib
import Derived.Test.YtlpmfkpefoegeacDoorProg
namespace Go.Proofs.YtlpmfkpefoegeacDoor
set_option maxRecDepth 100000
set_option maxHeartbeats 16000000
set_option linter.all false
open Go.Shelf Go.RowKit
def ZdM:Go.Shelf.Ren:=⟨fun|137=>47|217=>65|266=>91|n=>n,fun|9=>9|5=>5|3=>3|n=>n,fun|n=>n⟩
theorem ZgG:Lays.n137 Tryd.prog ZdM:={mixed:=by kernel_rfl,f137:=Tryd.func47.trans (congrArg some (by kernel_rfl)),f217:=Tryd.func65.trans (congrArg some (by kernel_rfl)),f266:=Tryd.func91.trans (congrArg some (by kernel_rfl)),t3:=Tryd.underlying3,a3:=Tryd.isAgg3,z3:=Tryd.sizeOf3,v3:=Tryd.zeroValue3,t5:=Tryd.underlying5,a5:=Tryd.isAgg5,z5:=Tryd.sizeOf5,v5:=Tryd.zeroValue5,t9:=Tryd.underlying9,a9:=Tryd.isAgg9,z9:=Tryd.sizeOf9,v9:=Tryd.zeroValue9}
theorem ZbK(s:ByteArray)(c:Int)(w:World):Calls Tryd.prog 47 #[.string s,.int .u8 c] w fun e w'=>e= .returned (.int .i64 (Lib.indexByte s.data.toList c.toNat.toUInt8))/\w'=w:=Any.strings_IndexByte ZgG s c w
end Go.Proofs.YtlpmfkpefoegeacDoor
