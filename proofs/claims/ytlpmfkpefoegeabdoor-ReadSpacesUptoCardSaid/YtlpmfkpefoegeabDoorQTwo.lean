/-
  Two lists of terms of a call's own, each grown by append; an append's step; two operations that may come up.
-/
import Derived.Test.YtlpmfkpefoegeabDoorQOwn
namespace Go.Proofs.YtlpmfkpefoegeabDoor
set_option linter.unusedVariables false
set_option linter.unusedSimpArgs false
open Go.RowKit
structure Two (B : Nat) (w : World) (la lb : List Tm) (av bv : Value) : Prop where
  a : OwnR w B 31 4 Tm.rep (fun b => B ≤ b ∧ ownB bv ≠ some b) la av
  b : OwnR w B 31 4 Tm.rep (fun b => B ≤ b ∧ ownB av ≠ some b) lb bv
  sep : ∀ k, ownB av = some k → ownB bv ≠ some k
section
variable {P : Program} {ops : Array Oper} {Q : Exit → Act → World → Prop}
end
end Go.Proofs.YtlpmfkpefoegeabDoor
