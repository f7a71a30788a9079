/-
  Copies of terms.
-/
import Derived.Test.YtlpmfkpefoegeacDoorQTerm
import Derived.Test.YtlpmfkpefoegeacDoorProg
namespace Go.Proofs.YtlpmfkpefoegeacDoor
set_option linter.unusedVariables false
set_option linter.unusedSimpArgs false
open Go.RowKit
theorem tyTerm : ElemTy Tryd.prog 22 27 4 56 :=
  .mk' (z := .agg #[.int .i64 0, .int .i64 0, .string ByteArray.empty, .slice none 0 0]) Tryd.underlying22 (by kernel_rfl) rfl (by omega) (by omega)
theorem below_pure {w w1 : World} {o : Obj} (h : Below (w.alloc o).heap.size (w.alloc o) w1) : Below w.heap.size w w1 :=
  ((Below.refl _ _).alloc (Nat.le_refl _) o).trans (h.mono (by simp))
end Go.Proofs.YtlpmfkpefoegeacDoor
