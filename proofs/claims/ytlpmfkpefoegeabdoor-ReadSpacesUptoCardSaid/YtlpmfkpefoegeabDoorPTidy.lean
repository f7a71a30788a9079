/-
  Plain laws of tidying: what is tidy is tidy; it does not matter which numbers there were.
-/
import Derived.Test.YtlpmfkpefoegeabDoorQRen
import Derived.Test.YtlpmfkpefoegeabDoorQLib
import Derived.Test.YtlpmfkpefoegeabDoorQGood
namespace Go.Proofs.YtlpmfkpefoegeabDoor
set_option linter.unusedVariables false
set_option linter.unusedSimpArgs false
namespace Tm
inductive Vars (p : Int → Prop) : Tm → Prop where
  | mk (k n : Int) (s : ByteArray) (l : List Tm) (h : k = 0 → p n) (hl : ∀ t ∈ l, Vars p t) : Vars p (mk k n s l)
end Tm
section
variable {p : Int → Prop} {g : Int → Int}
end
end Go.Proofs.YtlpmfkpefoegeabDoor
