/-
  Copies of terms.
-/
import Derived.Test.YtlpmfkpefoegeabQTerm
import Derived.Test.YtlpmfkpefoegeabProg
namespace Go.Proofs.Ytlpmfkpefoegeab
set_option linter.unusedVariables false
set_option linter.unusedSimpArgs false
open Go.RowKit

theorem tyTerm : ElemTy Try.prog 22 24 4 56 :=
  .mk' (z := .agg #[.int .i64 0, .int .i64 0, .string ByteArray.empty, .slice none 0 0]) Try.underlying22 (by kernel_rfl) rfl (by omega) (by omega)

/-- one's own Below, past a block of one's own -/
theorem below_pure {w w1 : World} {o : Obj} (h : Below (w.alloc o).heap.size (w.alloc o) w1) : Below w.heap.size w w1 :=
  ((Below.refl _ _).alloc (Nat.le_refl _) o).trans (h.mono (by simp))

end Go.Proofs.Ytlpmfkpefoegeab
