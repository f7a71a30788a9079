/-
  Variables renumbered, with a state that goes along.
-/
import Derived.Test.YtlpmfkpefoegeabDoorQShift
namespace Go.Proofs.YtlpmfkpefoegeabDoor
set_option linter.unusedVariables false
set_option linter.unusedSimpArgs false
open Go.RowKit
namespace Tm
mutual
/-- how many terms there are in one -/
def nodes : Tm → Nat
  | mk _ _ _ l => nodesL l + 1
def nodesL : List Tm → Nat
  | [] => 0
  | t :: r => nodes t + nodesL r
end
theorem nodesL_append (l r : List Tm) : nodesL (l ++ r) = nodesL l + nodesL r := by
  induction l with
  | nil => simp [nodesL]
  | cons t l ih => simp only [List.cons_append, nodesL, ih]; omega
theorem nodesL_take (l : List Tm) (j : Nat) (h : j < l.length) : nodesL (l.take j) + nodes l[j] ≤ nodesL l := by
  have h1 := nodesL_append (l.take (j + 1)) (l.drop (j + 1))
  rw [List.take_append_drop, List.take_succ_eq_append_getElem h, nodesL_append] at h1
  simp only [nodesL] at h1
  omega
variable {σ : Type}
def num (f : σ → Int → Int × σ) (st : σ) (k n : Int) : Int × σ := if k = 0 then f st n else (n, st)
mutual
/-- each variable's number as a function says that has a state, each term before its arguments -/
def renS (f : σ → Int → Int × σ) : σ → Tm → Tm × σ
  | st, mk k n s l => (mk k (num f st k n).1 s (renSL f (num f st k n).2 l).1, (renSL f (num f st k n).2 l).2)
def renSL (f : σ → Int → Int × σ) : σ → List Tm → List Tm × σ
  | st, [] => ([], st)
  | st, t :: r => ((renS f st t).1 :: (renSL f (renS f st t).2 r).1, (renSL f (renS f st t).2 r).2)
end
end Tm
structure StLaw {σ : Type} (I : σ → (Nat → Prop) → World → Prop) : Prop where
  lt : ∀ st M w, I st M w → ∀ b, M b → b < w.heap.size
  keeps : ∀ st M w w', I st M w → Keeps M w w' → I st M w'
end Go.Proofs.YtlpmfkpefoegeabDoor
