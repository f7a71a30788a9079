/-
  Maps keyed by integers, as lists of pairs.
-/
import Derived.Test.YtlpmfkpefoegeacGreatDoorQLib
import Derived.Carry
namespace Go.Proofs.YtlpmfkpefoegeacGreatDoor
set_option linter.unusedVariables false
set_option linter.unusedSimpArgs false
open Go.RowKit
def MapIs (w : World) (r : Nat) (L : List (Int × Value)) : Prop :=
  ∃ es clock, w.heap[r]? = some (.map es clock) ∧ es.toList.map (fun e => (e.key, e.val)) = L.map (fun p => (Value.int .i64 p.1, p.2))
theorem MapIs.lt {w : World} {r : Nat} {L : List (Int × Value)} (h : MapIs w r L) : r < w.heap.size := by
  obtain ⟨es, clock, h, _⟩ := h
  exact blk_lt h
theorem MapIs.keeps {A : Nat → Prop} {w w' : World} {r : Nat} {L : List (Int × Value)} (h : MapIs w r L) (hk : Keeps A w w') (hA : A r) : MapIs w' r L := by
  obtain ⟨es, clock, h1, h2⟩ := h
  exact ⟨es, clock, blk_keeps h1 hk hA, h2⟩
section
variable {P : Program} {t e : TypeId} {z : Value} {w : World} {r : Nat} {L : List (Int × Value)} {n : Int}
end
end Go.Proofs.YtlpmfkpefoegeacGreatDoor
