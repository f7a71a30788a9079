import Derived.Test.YtlpmfkpefoegeacGreatDoorQSolveO
namespace Go.Proofs.YtlpmfkpefoegeacGreatDoor
set_option maxRecDepth 99999
set_option maxHeartbeats 0
set_option linter.all false
open Go.RowKit
abbrev U5(A:Nat->Prop)(w:World)(l:List Ev)(v:Value):Prop:=au 2 yC A w l v
def U6(w:World)(r:List Ev×Int)(e:Ending)(w':World):Prop:=∃ev,e= .returned (.tuple #[ev,.int .i64 r.2])/\Below w.heap.size w w'/\U5 (fun _=>True) w' r.1 ev
section
variable {base : Nat} {P : List Cl} {q g mb : Nat} {pv tv cv ov : Value} {s : Sv} {w : World}
end
section
variable {P : List Cl} {Q : List Tm} {vars fuel : Int}
end
