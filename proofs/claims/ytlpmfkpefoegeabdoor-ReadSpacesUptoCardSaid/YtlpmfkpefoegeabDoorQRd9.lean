/-
  read.Query.
-/
import Derived.Test.YtlpmfkpefoegeabDoorQRd8
import Derived.Test.YtlpmfkpefoegeabDoorPRead3
namespace Go.Proofs.YtlpmfkpefoegeabDoor
set_option linter.unusedVariables false
set_option linter.unusedSimpArgs false
open Go.RowKit
section
variable {B base g : Nat} {vv v1 : Value} {r r1 r2 : Rd} {w w0 w1 w2 : World}
theorem rd_new (s : Str) (hs : s.length ≤ 2000) (hB : B ≤ w.heap.size) (ht : TabsK B w) :
    RdI B (w.heap.size + 1) w.heap.size (.slice none 0 0) ⟨s, [], false⟩ (w.alloc (.cells #[.string (bs s), .slice none 0 0, .bool false] 103)) :=
  ⟨blk_new _ _, OwnF.nil, ht.below ((Below.refl _ _).alloc (Nat.le_refl _) _), ⟨hB, by omega, by simp⟩, by simpa using hs⟩
theorem RdI.below_of (h : RdI B base g v1 r w1) (hg : w0.heap.size ≤ g) (hb : Below w0.heap.size w0 w1) (hc : Ch (RdM g v1) w1 w2) : Below w0.heap.size w0 w2 :=
  ((Ch.of_below (M := fun b => w0.heap.size ≤ b) hb).trans hc fun b e => by
    rcases e with e | e
    · exact .inl (by omega)
    · exact .inl (by have := (h.vars.lt b e).1; have := h.bg; omega)).below fun k hk => by omega
end
end Go.Proofs.YtlpmfkpefoegeabDoor
