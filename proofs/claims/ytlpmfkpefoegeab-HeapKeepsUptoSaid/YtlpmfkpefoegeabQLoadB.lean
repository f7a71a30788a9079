/-
  queristref.LoadBlock.
-/
import Derived.Test.YtlpmfkpefoegeabQLoad
import Derived.Test.YtlpmfkpefoegeabQIsHeap
import Derived.Test.YtlpmfkpefoegeabQCopyHeap
namespace Go.Proofs.Ytlpmfkpefoegeab
set_option linter.unusedVariables false
set_option linter.unusedSimpArgs false
open Go.RowKit

theorem OwnF.ne_box {α : Type} {f : α → List Value} {ok : α → Prop} {E E' : TypeId} {size base : Nat} {w : World} {l : List α} {v : Value} {g : Nat} {c : Array Value} {fr : Nat × Nat}
    (h : OwnF f ok E size w base l v) (hb : w.heap[g]? = some (.cells c E' fr)) (hE : E ≠ E') : ownB v ≠ some g := by
  intro hk
  rcases h.1.2 with ⟨_, a, rfl⟩ | ⟨g', cap, cur, rfl, hc, hb', hg, _⟩
  · cases a <;> simp [ownB] at hk
  · simp only [ownB, Nat.pos_iff_ne_zero.1 hc, if_false, Option.some.injEq] at hk
    subst hk
    rw [hg] at hb
    simp only [Option.some.injEq, Obj.cells.injEq] at hb
    exact hE hb.2.1

/-- what LoadBlock's loop keeps -/
def LbInv (w : World) (base ob : Nat) (E : TypeId) (X1 X2 : Obj) (l : List Ce) (t : List Int) (tv : Value) (cv : Value) (wr : World) : Prop :=
  Below w.heap.size w wr ∧ wr.heap[w.heap.size]? = some X1 ∧ wr.heap[w.heap.size + 1]? = some X2 ∧ wr.heap[ob]? = some (.cells #[cv, tv] E (0, 0)) ∧ OwnC wr base l cv ∧ OwnN wr base t tv ∧ base ≤ wr.heap.size

end Go.Proofs.Ytlpmfkpefoegeab
