/-
  Variables renumbered: term.Shift.
-/
import Derived.Test.YtlpmfkpefoegeacDoorQCopy
import Derived.Test.YtlpmfkpefoegeacDoorQReg
namespace Go.Proofs.YtlpmfkpefoegeacDoor
set_option linter.unusedVariables false
set_option linter.unusedSimpArgs false
open Go.RowKit
namespace Tm
mutual
/-- each variable's number as a function says -/
def ren (f : Int → Int) : Tm → Tm
  | mk k n s l => mk k (if k = 0 then f n else n) s (renL f l)
def renL (f : Int → Int) : List Tm → List Tm
  | [] => []
  | t :: r => ren f t :: renL f r
end
end Tm
end Go.Proofs.YtlpmfkpefoegeacDoor
