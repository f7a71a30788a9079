/-
  strings.Trim at a cutset of ASCII bytes, laid at this dump (out of what lay-plain.mjs prints).
-/
import Derived.Shelf.Strings.SlTrimAscii
import Derived.Test.YtlpmfkpefoegeabDoorProg
namespace Go.Proofs.YtlpmfkpefoegeabDoor
set_option linter.unusedVariables false
open Go.Shelf
def laysTrim_ren : Go.Shelf.Ren := ⟨fun | 160 => 49 | 232 => 77 | 231 => 76 | 227 => 78 | 234 => 80 | 233 => 79 | 236 => 82 | 235 => 81 | 228 => 116 | 271 => 119 | 151 => 118 | 197 => 117 | 120 => 142 | 152 => 141 | 260 => 140 | 137 => 155 | 119 => 156 | 224 => 157 | 225 => 158 | 217 => 172 | 266 => 178 | n => n, fun | 9 => 9 | 4 => 4 | 3 => 3 | 5 => 5 | 117 => 124 | 116 => 123 | 0 => 0 | 124 => 127 | 21 => 21 | 105 => 175 | 46 => 217 | 119 => 216 | 139 => 220 | 138 => 219 | n => n, fun | 3 => 1 | 4 => 2 | n => n⟩
theorem laysTrim : Lays.n160 Tryd.prog laysTrim_ren := {
  mixed := by kernel_rfl
  f119 := Tryd.func156.trans (congrArg some (by kernel_rfl))
  f120 := Tryd.func142.trans (congrArg some (by kernel_rfl))
  f137 := Tryd.func155.trans (congrArg some (by kernel_rfl))
  f151 := Tryd.func118.trans (congrArg some (by kernel_rfl))
  f152 := Tryd.func141.trans (congrArg some (by kernel_rfl))
  f160 := Tryd.func49.trans (congrArg some (by kernel_rfl))
  f197 := Tryd.func117.trans (congrArg some (by kernel_rfl))
  f217 := Tryd.func172.trans (congrArg some (by kernel_rfl))
  f224 := Tryd.func157.trans (congrArg some (by kernel_rfl))
  f225 := Tryd.func158.trans (congrArg some (by kernel_rfl))
  f227 := Tryd.func78.trans (congrArg some (by kernel_rfl))
  f228 := Tryd.func116.trans (congrArg some (by kernel_rfl))
  f231 := Tryd.func76.trans (congrArg some (by kernel_rfl))
  f232 := Tryd.func77.trans (congrArg some (by kernel_rfl))
  f233 := Tryd.func79.trans (congrArg some (by kernel_rfl))
  f234 := Tryd.func80.trans (congrArg some (by kernel_rfl))
  f235 := Tryd.func81.trans (congrArg some (by kernel_rfl))
  f236 := Tryd.func82.trans (congrArg some (by kernel_rfl))
  f260 := Tryd.func140.trans (congrArg some (by kernel_rfl))
  f266 := Tryd.func178.trans (congrArg some (by kernel_rfl))
  f271 := Tryd.func119.trans (congrArg some (by kernel_rfl))
  t0 := Tryd.underlying0
  a0 := Tryd.isAgg0
  z0 := Tryd.sizeOf0
  v0 := Tryd.zeroValue0
  t3 := Tryd.underlying3
  a3 := Tryd.isAgg3
  z3 := Tryd.sizeOf3
  v3 := Tryd.zeroValue3
  t4 := Tryd.underlying4
  a4 := Tryd.isAgg4
  z4 := Tryd.sizeOf4
  v4 := Tryd.zeroValue4
  t5 := Tryd.underlying5
  a5 := Tryd.isAgg5
  z5 := Tryd.sizeOf5
  v5 := Tryd.zeroValue5
  t9 := Tryd.underlying9
  a9 := Tryd.isAgg9
  z9 := Tryd.sizeOf9
  v9 := Tryd.zeroValue9
  t21 := Tryd.underlying21
  a21 := Tryd.isAgg21
  z21 := Tryd.sizeOf21
  v21 := Tryd.zeroValue21
  t46 := Tryd.underlying217
  a46 := Tryd.isAgg217
  z46 := Tryd.sizeOf217
  v46 := Tryd.zeroValue217
  t105 := Tryd.underlying175
  a105 := Tryd.isAgg175
  z105 := Tryd.sizeOf175
  v105 := Tryd.zeroValue175
  t116 := Tryd.underlying123
  a116 := Tryd.isAgg123
  z116 := Tryd.sizeOf123
  t117 := Tryd.underlying124
  a117 := Tryd.isAgg124
  z117 := Tryd.sizeOf124
  v117 := Tryd.zeroValue124
  t119 := Tryd.underlying216
  a119 := Tryd.isAgg216
  z119 := Tryd.sizeOf216
  t124 := Tryd.underlying127
  a124 := Tryd.isAgg127
  z124 := Tryd.sizeOf127
  v124 := Tryd.zeroValue127
  t138 := Tryd.underlying219
  a138 := Tryd.isAgg219
  z138 := Tryd.sizeOf219
  v138 := Tryd.zeroValue219
  t139 := Tryd.underlying220
  a139 := Tryd.isAgg220
  z139 := Tryd.sizeOf220
  v139 := Tryd.zeroValue220
  g3 := by kernel_rfl
  g4 := by kernel_rfl }

open Go.RowKit in
theorem trim_laid (s cutset : ByteArray) (w : World) (hs : s.size ≤ 9223372036854775807) (hcs : cutset.size < 4294967281)
    (hascii : ∀ (j : Nat) b, cutset.data.toList[j]? = some b → b.toNat < 128) :
    Calls Tryd.prog 49 #[.string s, .string cutset] w fun e w' => e = .returned (.string ⟨(Lib.trimS s.data.toList cutset.data.toList).toArray⟩) ∧ Below w.heap.size w w' :=
  Any.strings_Trim_laid laysTrim (by kernel_rfl) s cutset w hs hcs hascii
end Go.Proofs.YtlpmfkpefoegeabDoor
