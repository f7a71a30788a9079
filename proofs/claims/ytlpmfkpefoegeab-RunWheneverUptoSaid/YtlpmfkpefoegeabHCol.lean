/-
  What Marks and Collect answer, in plain data; just what is reached is kept, in its order.
-/
import Derived.Test.YtlpmfkpefoegeabHGc
namespace Go.Proofs.Ytlpmfkpefoegeab
set_option linter.unusedVariables false
set_option linter.unusedSimpArgs false
open Classical in
/-- what Marks answers -/
noncomputable def marksF (h : Hp) (roots : List Int) : List Bool × Int := if h.Good then (marks h.cells roots, 0) else ([], 1)
structure Coll where
  heap : Hp
  roots : List Int
  tops : List Int
  mks : List Int
  err : Int
  deriving DecidableEq
open Classical in
noncomputable def collectF (h : Hp) (roots tops mks : List Int) : Coll :=
  if ¬ h.Good then ⟨h, [], [], [], 1⟩
  else if ¬ (∀ r ∈ roots, Inb h.cells r) then ⟨h, [], [], [], 4⟩
  else ⟨gcH h roots, roots.map (ahead (marks h.cells roots)), tops.map (ahead (marks h.cells roots)), mks.map (ahead (trailM (marks h.cells roots) h.trail)), 0⟩
section
variable {h : Hp} {roots : List Int}
end
end Go.Proofs.Ytlpmfkpefoegeab
