/-
  What a heap means, in plain data: which are valid, and what a place stands for.
-/
import Derived.Test.YtlpmfkpefoegeabDoorQHeap
import Derived.Test.YtlpmfkpefoegeabDoorQTerm
namespace Go.Proofs.YtlpmfkpefoegeabDoor
set_option linter.unusedVariables false
set_option linter.unusedSimpArgs false
def Ce.OkAt (n i : Nat) (c : Ce) : Prop :=
  (c.kind = 0 ∧ 0 ≤ c.n ∧ c.n < n ∧ c.s.toList = []) ∨ (c.kind = 1 ∧ c.n = 0 ∧ c.s.toList ≠ []) ∨ (c.kind = 2 ∧ c.s.toList = []) ∨
  (c.kind = 3 ∧ 1 ≤ c.n ∧ c.n ≤ 4 ∧ (i : Int) + c.n < n ∧ c.s.toList ≠ [])
def GoodC (l : List Ce) : Prop := ∀ (i : Nat) (h : i < l.length), (l[i]).OkAt l.length i
def GoodT (l : List Ce) (t : List Int) : Prop := ∀ (j : Nat) (h : j < t.length), ∃ v : Nat, t[j] = (v : Int) ∧ ∃ hv : v < l.length, (l[v]).kind = 0
def Hp.Good (h : Hp) : Prop := GoodC h.cells ∧ GoodT h.cells h.trail ∧ h.cells.length ≤ 65536 ∧ h.trail.length ≤ 65536
def cellAt (l : List Ce) (a : Int) : Ce := (l[a.toNat]?).getD default
def Stop (l : List Ce) (a : Int) : Prop := (cellAt l a).kind ≠ 0 ∨ (cellAt l a).n = a
instance (l : List Ce) (a : Int) : Decidable (Stop l a) := by unfold Stop; infer_instance
def Inb (l : List Ce) (a : Int) : Prop := 0 ≤ a ∧ a < l.length
instance (l : List Ce) (a : Int) : Decidable (Inb l a) := by unfold Inb; infer_instance
inductive Looks (l : List Ce) : Int → Int → Prop where
  | stop {a : Int} : Inb l a → Stop l a → Looks l a a
  | next {a x : Int} : Inb l a → ¬ Stop l a → Looks l (cellAt l a).n x → Looks l a x
end Go.Proofs.YtlpmfkpefoegeabDoor
