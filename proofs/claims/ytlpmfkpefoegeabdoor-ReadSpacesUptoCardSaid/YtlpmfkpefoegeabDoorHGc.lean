/-
  What is reached in cells, and a heap without all else: in plain data.
-/
import Derived.Test.YtlpmfkpefoegeabDoorHLook
namespace Go.Proofs.YtlpmfkpefoegeabDoor
set_option linter.unusedVariables false
set_option linter.unusedSimpArgs false
structure Un where
  ok : Bool
  cells : List Ce
  trail : List Int
  work : Int
  deriving DecidableEq, Inhabited
def Leads (l : List Ce) (i j : Nat) : Prop := ((cellAt l i).kind = 0 ∧ (cellAt l i).n = j) ∨ ((cellAt l i).kind = 3 ∧ i < j ∧ (j : Int) ≤ i + (cellAt l i).n)
inductive Reach (l : List Ce) (roots : List Int) : Nat → Prop where
  | root {i : Nat} : (i : Int) ∈ roots → i < l.length → Reach l roots i
  | step {i j : Nat} : Reach l roots i → Leads l i j → Reach l roots j
section
variable {h : Hp} {roots : List Int}
end
end Go.Proofs.YtlpmfkpefoegeabDoor
