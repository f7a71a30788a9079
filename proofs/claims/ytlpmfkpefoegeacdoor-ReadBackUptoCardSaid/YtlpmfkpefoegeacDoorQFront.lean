/-
  A statement whose order Go leaves open up to its last steps: the first operations told each by itself; then the last ones, in their order.
-/
import Derived.Test.YtlpmfkpefoegeacDoorQReg
namespace Go.Proofs.YtlpmfkpefoegeacDoor
set_option linter.unusedVariables false
set_option linter.unusedSimpArgs false
open Go.RowKit
section
variable {P : Program} {ops : Array Oper} {Q : Exit → Act → World → Prop}
def dstOf (ops : Array Oper) (k : Nat) : Option Nat := (ops[k]?).bind (·.dst)
structure Come (ops : Array Oper) (Po : Nat → Value → World → Prop) (a0 : Act) (f : Nat → Value) (listed : Array Bool) (a : Act) (w : World) : Prop where
  defers : a.defers = a0.defers
  size : a.tmps.size = a0.tmps.size
  old : ∀ s, (∀ k, listed.getD k false = true → dstOf ops k ≠ some s) → a.tmps[s]? = a0.tmps[s]?
  new : ∀ k, k < ops.size → listed.getD k false = true → Po k (f k) w ∧ ∀ s, dstOf ops k = some s → a.tmps[s]? = some (f k)
  closed : ∀ k j, listed.getD k false = true → waits ops k j = true → listed.getD j false = true
end
section
variable {P : Program} {ops : Array Oper} {Q : Exit → Act → World → Prop}
structure ComeL (ops : Array Oper) (L : Nat) (Po : Nat → Value → World → Prop) (a0 : Act) (f : Nat → Value) (listed : Array Bool) (a : Act) (w : World) : Prop where
  defers : a.defers = a0.defers
  size : a.tmps.size = a0.tmps.size
  old : ∀ s, (∀ k, listed.getD k false = true → dstOf ops k ≠ some s) → a.tmps[s]? = a0.tmps[s]?
  new : ∀ k, k < L → listed.getD k false = true → Po k (f k) w ∧ ∀ s, dstOf ops k = some s → a.tmps[s]? = some (f k)
  front : ∀ k, listed.getD k false = true → k < L
end
end Go.Proofs.YtlpmfkpefoegeacDoor
