/-
  Which heaps are valid: the program's answer, and the document's.
-/
import Derived.Test.YtlpmfkpefoegeabDoorQNamed
import Derived.Test.YtlpmfkpefoegeabDoorQHeap
import Derived.Test.YtlpmfkpefoegeabDoorQCopy
import Derived.Test.YtlpmfkpefoegeabDoorHGc
namespace Go.Proofs.YtlpmfkpefoegeabDoor
set_option linter.unusedVariables false
set_option linter.unusedSimpArgs false
open Go.RowKit
def BoolP (p : Prop) (r : Value) (_ : World) : Prop := ∃ t, r = .bool t ∧ (t = true ↔ p)
end Go.Proofs.YtlpmfkpefoegeabDoor
