/-
  Terms that are alike.
-/
import Derived.Test.YtlpmfkpefoegeacDoorQCopy
namespace Go.Proofs.YtlpmfkpefoegeacDoor
set_option linter.unusedVariables false
set_option linter.unusedSimpArgs false
open Go.RowKit
theorem toList_ne {s s' : ByteArray} (h : ¬ s = s') : ¬ s.toList = s'.toList := by
  intro e
  rw [ByteArray.toList_eq, ByteArray.toList_eq] at e
  apply h
  cases s; cases s'
  congr 1
  exact Array.toList_inj.1 e
theorem take_next {α : Type} {l l' : List α} {k : Nat} (h : l.take k = l'.take k) (h1 : k < l.length) (h2 : k < l'.length) (he : l[k] = l'[k]) : l.take (k + 1) = l'.take (k + 1) := by
  rw [List.take_succ_eq_append_getElem h1, List.take_succ_eq_append_getElem h2, h, he]
def SameOK (f : FuncId) (t : Tm) : Prop := ∀ (t' : Tm) (A : Nat → Prop) (w : World) (us vs : List Value), Tm.rep A w t us → Tm.rep A w t' vs →
  Calls Tryd.prog f #[.agg us.toArray, .agg vs.toArray] w (Pure w fun v _ => ∃ r, v = .bool r ∧ (r = true ↔ t = t'))
end Go.Proofs.YtlpmfkpefoegeacDoor
