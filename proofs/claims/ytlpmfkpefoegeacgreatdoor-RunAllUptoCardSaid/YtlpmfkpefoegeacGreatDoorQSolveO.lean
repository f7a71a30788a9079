import Derived.Test.YtlpmfkpefoegeacGreatDoorQProvM
namespace Go.Proofs.YtlpmfkpefoegeacGreatDoor
set_option maxRecDepth 99999
set_option maxHeartbeats 0
set_option linter.all false
open Go.RowKit
theorem Tm.In.num{N:Int}{t:Tm}(h:t.In N)(hk:t.kind=2): -1099511627776<=t.n/\t.n<=1099511627776:=by cases h with|var=>cases hk|atom=>cases hk|int n h0 h1=>exact⟨h0,h1⟩|comp=>cases hk
section
variable {base : Nat} {P : List Cl} {q g mb : Nat} {pv tv cv ov : Value} {s : Sv} {w : World} {g0 : Gl} {rest : List Gl} {gv : Value}
end
