/-
  heap.Load.
-/
import Derived.Test.YtlpmfkpefoegeacDoorQOwn
import Derived.Test.YtlpmfkpefoegeacDoorQIsHeap
namespace Go.Proofs.YtlpmfkpefoegeacDoor
set_option linter.unusedVariables false
set_option linter.unusedSimpArgs false
open Go.RowKit
structure Two (B : Nat) (w : World) (la lb : List Tm) (av bv : Value) : Prop where
  a : OwnR w B 27 4 Tm.rep (fun b => B ≤ b ∧ ownB bv ≠ some b) la av
  b : OwnR w B 27 4 Tm.rep (fun b => B ≤ b ∧ ownB av ≠ some b) lb bv
  sep : ∀ k, ownB av = some k → ownB bv ≠ some k
section
variable {P : Program} {ops : Array Oper} {Q : Exit → Act → World → Prop}
end
theorem OwnR.val' {α : Type} {w : World} {base : Nat} {E : TypeId} {size : Nat} {R : (Nat → Prop) → World → α → List Value → Prop} {A : Nat → Prop} {xs : List α} {v : Value}
    (h : OwnR w base E size R A xs v) : ∃ a cap, v = .slice a xs.length cap ∧ xs.length ≤ cap ∧ cap ≤ maxLen := by
  obtain ⟨vals, hl, ho, he⟩ := h
  rcases ho.2 with ⟨h0, a, rfl⟩ | ⟨g, cap, cur, rfl, hc, hb, hg, hnc, hcm, _⟩
  · exact ⟨a, 0, by rw [h0], by omega, by simp [maxLen]⟩
  · exact ⟨_, cap, rfl, hnc, hcm⟩
end Go.Proofs.YtlpmfkpefoegeacDoor
