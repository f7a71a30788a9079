/-
  DERIVED. GIVEN WITH THE SEED: THE CARDS: each row of YtlpmfkpefoegeaaDoorRows.lean that lists a variable, with what it lists TIED to the program's text (the seventh form; the later family's looks); each row that meets fmt, with fmt's text TOLD by the authors' own Lean function (tested against real Go, not proved from fmt's source: count such statements apart). THE CARD IS WHAT COUNTS. Prove the row's statement (the work); the ties are given (YtlpmfkpefoegeaaDoorTie.lean); close each card by the builder's one call (the guide's Derived/Test/ToyasCard.lean, 'card_holds'). Laid BY PROGRAM, IN A SANDBOX (cutbox-door.mjs). By AI agents, Wed Nov 11 2026. No macro, syntax, notation, axiom, sorry.
-/
import Derived.Test.YtlpmfkpefoegeaaDoorRows
import GoSem.ClaimSeven
namespace Go.Proofs.YtlpmfkpefoegeaaDoor
namespace Rows

/-- THE TIED CARD OF 'queristtop.TopWhenever'. -/
def topWheneverCard : Claim7 := { stood := { row := topWheneverRow, standIns := [], harness := (true, "bc8f475e8bf6cdd72022054a5c2155d99acc88bf58a46a3d0e5fe235ac171b0c"), looks := true }, kinds := [], alts := [], laidByText := true, laidKinds := [.data, .data, .data, .sentinel, .sentinel, .data], laidTests := true, laidLooks := .later }
def TopWheneverCardSaid : Prop := Claim7.holds Tryd.pinned (.plain (OpenSpec.ofChange topWheneverSpec)) topWheneverCard

/-- THE SECOND FORM's CARD OF 'queristtop.TopWhenever'. -/
def topWheneverUptoCard : Claim7 := { stood := { row := topWheneverUptoRow, standIns := [], harness := (true, "bc8f475e8bf6cdd72022054a5c2155d99acc88bf58a46a3d0e5fe235ac171b0c"), looks := true }, kinds := [], alts := [], laidByText := true, laidKinds := [.data, .data, .data, .sentinel, .sentinel, .data], laidTests := true, laidLooks := .later }
def TopWheneverUptoCardSaid : Prop := Claim7.holds Tryd.pinned (.plain (OpenSpec.upto topWheneverSpec)) topWheneverUptoCard
end Rows
end Go.Proofs.YtlpmfkpefoegeaaDoor
