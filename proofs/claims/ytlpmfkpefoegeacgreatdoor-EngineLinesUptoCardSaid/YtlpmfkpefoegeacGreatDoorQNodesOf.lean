import Derived.Shelf.Strings.OnBuilder
import Derived.Test.YtlpmfkpefoegeacGreatDoorQIsHeap
import Derived.Deep.RegionLaw
import Derived.Deep.DeepCutAuto
import Derived.BigRegion
namespace Go.Proofs.YtlpmfkpefoegeacGreatDoor
set_option maxRecDepth 99999
set_option maxHeartbeats 0
set_option linter.all false
open Go.Shelf Go.RowKit
def afW:Go.Shelf.Ren:=⟨fun|156=>48|165=>83|166=>84|169=>85|240=>123|241=>124|276=>147|277=>148|n=>n,fun|31=>45|9=>9|3=>3|4=>4|0=>0|20=>20|72=>147|76=>151|70=>145|37=>86|75=>150|127=>185|164=>205|5=>5|80=>153|n=>n,fun|n=>n⟩
theorem arf:Lays.n156 Tryz.prog afW:={mixed:=by kernel_rfl,f156:=Tryz.func48.trans (congrArg some (by kernel_rfl)),f165:=Tryz.func83.trans (congrArg some (by kernel_rfl)),f166:=Tryz.func84.trans (congrArg some (by kernel_rfl)),f169:=Tryz.func85.trans (congrArg some (by kernel_rfl)),f240:=Tryz.func123.trans (congrArg some (by kernel_rfl)),f241:=Tryz.func124.trans (congrArg some (by kernel_rfl)),f276:=Tryz.func147.trans (congrArg some (by kernel_rfl)),f277:=Tryz.func148.trans (congrArg some (by kernel_rfl)),t0:=Tryz.underlying0,a0:=Tryz.isAgg0,z0:=Tryz.sizeOf0,v0:=Tryz.zeroValue0,t3:=Tryz.underlying3,a3:=Tryz.isAgg3,z3:=Tryz.sizeOf3,v3:=Tryz.zeroValue3,t4:=Tryz.underlying4,a4:=Tryz.isAgg4,z4:=Tryz.sizeOf4,v4:=Tryz.zeroValue4,t9:=Tryz.underlying9,a9:=Tryz.isAgg9,z9:=Tryz.sizeOf9,v9:=Tryz.zeroValue9,t20:=Tryz.underlying20,a20:=Tryz.isAgg20,z20:=Tryz.sizeOf20,v20:=Tryz.zeroValue20,t31:=Tryz.underlying45,a31:=Tryz.isAgg45,z31:=Tryz.sizeOf45,v31:=Tryz.zeroValue45,t37:=Tryz.underlying86,a37:=Tryz.isAgg86,z37:=Tryz.sizeOf86,v37:=Tryz.zeroValue86,t70:=Tryz.underlying145,a70:=Tryz.isAgg145,z70:=Tryz.sizeOf145,v70:=Tryz.zeroValue145,t72:=Tryz.underlying147,a72:=Tryz.isAgg147,z72:=Tryz.sizeOf147,v72:=Tryz.zeroValue147,t75:=Tryz.underlying150,a75:=Tryz.isAgg150,z75:=Tryz.sizeOf150,v75:=Tryz.zeroValue150,t76:=Tryz.underlying151,a76:=Tryz.isAgg151,z76:=Tryz.sizeOf151,v76:=Tryz.zeroValue151,t127:=Tryz.underlying185,a127:=Tryz.isAgg185,z127:=Tryz.sizeOf185,v127:=Tryz.zeroValue185,t164:=Tryz.underlying205,a164:=Tryz.isAgg205,z164:=Tryz.sizeOf205,v164:=Tryz.zeroValue205}
theorem arh:Builder.Extra Tryz.prog afW:={sizeBuilder:=by kernel_rfl,liesBuilder:=by kernel_rfl,t5:=Tryz.underlying5,a5:=Tryz.isAgg5,z5:=Tryz.sizeOf5,v5:=Tryz.zeroValue5,infoByte:=by kernel_rfl,cellsByte:=by kernel_rfl,sizeByte:=by kernel_rfl,neB5:=by decide}
theorem Xg(bk o c:Nat)(xs:List ByteArray)(sep:ByteArray)(w:World)(hcells:∀(j:Nat)x,xs[j]?=some x->w.cell? ⟨bk,o+j,none⟩=some (.string x))(hbk:bk<w.heap.size)(hN:xs.length<=140737488355328)(hcap:xs.length<=c)(hlen:(Lib.join (xs.map (·.data.toList)) sep.data.toList).length<=140737488355328):Calls Tryz.prog 48 #[.slice (some ⟨bk,o,none⟩) xs.length c,.string sep] w fun e w'=>e= .returned (.string ⟨(Lib.join (xs.map (·.data.toList)) sep.data.toList).toArray⟩)/\Below w.heap.size w w':=Any.strings_Join arf arh bk o c xs sep w hcells hbk hN hcap hlen
open Go.RowKit
def au8(w:World)(base:Nat)(E:TypeId)(size:Nat)(v:Value)(n:Nat)(xs:List Value):Prop:=xs.length=n*size/\((n=0/\∃a,v= .slice a 0 0)\/∃g off cap cur,v= .slice (some ⟨g,off,none⟩) n cap/\0<cap/\base<=g/\w.heap[g]?=some (.cells cur E (0,0))/\n<=cap/\cap<=maxLen/\cur.size=off+cap*size/\(cur.toList.drop off).take (n*size)=xs)
theorem Yc(t:Tm):t.nodes=1+Tm.aH t.args:=by cases t;simp[Tm.nodes,Tm.args];try omega
theorem Xh:∀(l:List Tm),l.length<=Tm.aH l|[]=>by simp|x::r=>by have :=Xh r;have :=Yc x;simp only[Tm.aH,bn];omega
