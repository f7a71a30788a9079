/-
  queristref.Tidied: a map keeps which numbers were met.
-/
import Derived.Test.YtlpmfkpefoegeacDoorQRen
import Derived.Test.YtlpmfkpefoegeacDoorQLib
namespace Go.Proofs.YtlpmfkpefoegeacDoor
set_option linter.unusedVariables false
set_option linter.unusedSimpArgs false
open Go.RowKit
def seenF (st : List Int) (n : Int) : Int × List Int := if n ∈ st then ((st.idxOf n : Nat), st) else ((st.length : Nat), st ++ [n])
theorem seenF_sz (st : List Int) (n : Int) : (seenF st n).2.length ≤ st.length + 1 := by
  unfold seenF; split <;> simp
theorem i64_nat {k : Nat} (h : k ≤ 4194304) : I64 (k : Int) := by unfold I64; omega
end Go.Proofs.YtlpmfkpefoegeacDoor
