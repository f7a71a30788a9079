/-
  DERIVED. GIVEN WITH THE SEED: THE CARDS: each row of YtlpmfkpefoegeacDoorRows.lean that lists a variable, with what it lists TIED to the program's text (the seventh form; the later family's looks); each row that meets fmt, with fmt's text TOLD by the authors' own Lean function (tested against real Go, not proved from fmt's source: count such statements apart). THE CARD IS WHAT COUNTS. Prove the row's statement (the work); the ties are given (YtlpmfkpefoegeacDoorTie.lean); close each card by the builder's one call (the guide's Derived/Test/ToyasCard.lean, 'card_holds'). Laid BY PROGRAM, IN A SANDBOX (cutbox-door.mjs). By AI agents, Wed Nov 11 2026. No macro, syntax, notation, axiom, sorry.
-/
import Derived.Test.YtlpmfkpefoegeacDoorRows
import GoSem.ClaimSeven
namespace Go.Proofs.YtlpmfkpefoegeacDoor
namespace Rows

/-- THE TIED CARD OF 'queristkeep.ReadBack'. -/
def readBackCard : Claim7 := { stood := { row := readBackRow, standIns := [], harness := (true, "fed0e71f5d30ef964ca0ea8b16b5718291b74bed51c04730869cef241958f2d4"), looks := true }, kinds := [], alts := [], laidByText := true, laidKinds := [.data, .data, .data, .sentinel, .sentinel], laidTests := true, laidLooks := .later }
def ReadBackCardSaid : Prop := Claim7.holds Tryd.pinned (.plain (OpenSpec.ofChange readBackSpec)) readBackCard

/-- THE TIED CARD OF 'queristlaw.ReadPrograms'. -/
def readProgramsCard : Claim7 := { stood := { row := readProgramsRow, standIns := [], harness := (true, "fed0e71f5d30ef964ca0ea8b16b5718291b74bed51c04730869cef241958f2d4"), looks := true }, kinds := [], alts := [], laidByText := true, laidKinds := [.data, .data, .data, .data, .sentinel, .sentinel, .pinned], laidTests := true, laidLooks := .later }
def ReadProgramsCardSaid : Prop := Claim7.holds Tryd.pinned (.plain (OpenSpec.ofChange readProgramsSpec)) readProgramsCard

/-- THE TIED CARD OF 'queristtop.TopGround'. -/
def topGroundCard : Claim7 := { stood := { row := topGroundRow, standIns := [], harness := (true, "fed0e71f5d30ef964ca0ea8b16b5718291b74bed51c04730869cef241958f2d4"), looks := true }, kinds := [], alts := [], laidByText := true, laidKinds := [.data, .data, .data, .sentinel, .sentinel, .data], laidTests := true, laidLooks := .later }
def TopGroundCardSaid : Prop := Claim7.holds Tryd.pinned (.plain (OpenSpec.ofChange topGroundSpec)) topGroundCard

/-- THE TIED CARD OF 'queristtop.TopRefused'. -/
def topRefusedCard : Claim7 := { stood := { row := topRefusedRow, standIns := [], harness := (true, "fed0e71f5d30ef964ca0ea8b16b5718291b74bed51c04730869cef241958f2d4"), looks := true }, kinds := [], alts := [], laidByText := true, laidKinds := [.data, .data, .data, .sentinel, .sentinel, .data], laidTests := true, laidLooks := .later }
def TopRefusedCardSaid : Prop := Claim7.holds Tryd.pinned (.plain (OpenSpec.ofChange topRefusedSpec)) topRefusedCard

/-- THE SECOND FORM's CARD OF 'queristkeep.ReadBack'. -/
def readBackUptoCard : Claim7 := { stood := { row := readBackUptoRow, standIns := [], harness := (true, "fed0e71f5d30ef964ca0ea8b16b5718291b74bed51c04730869cef241958f2d4"), looks := true }, kinds := [], alts := [], laidByText := true, laidKinds := [.data, .data, .data, .sentinel, .sentinel], laidTests := true, laidLooks := .later }
def ReadBackUptoCardSaid : Prop := Claim7.holds Tryd.pinned (.plain (OpenSpec.upto readBackSpec)) readBackUptoCard

/-- THE SECOND FORM's CARD OF 'queristlaw.ReadPrograms'. -/
def readProgramsUptoCard : Claim7 := { stood := { row := readProgramsUptoRow, standIns := [], harness := (true, "fed0e71f5d30ef964ca0ea8b16b5718291b74bed51c04730869cef241958f2d4"), looks := true }, kinds := [], alts := [], laidByText := true, laidKinds := [.data, .data, .data, .data, .sentinel, .sentinel, .pinned], laidTests := true, laidLooks := .later }
def ReadProgramsUptoCardSaid : Prop := Claim7.holds Tryd.pinned (.plain (OpenSpec.upto readProgramsSpec)) readProgramsUptoCard

/-- THE SECOND FORM's CARD OF 'queristtop.TopGround'. -/
def topGroundUptoCard : Claim7 := { stood := { row := topGroundUptoRow, standIns := [], harness := (true, "fed0e71f5d30ef964ca0ea8b16b5718291b74bed51c04730869cef241958f2d4"), looks := true }, kinds := [], alts := [], laidByText := true, laidKinds := [.data, .data, .data, .sentinel, .sentinel, .data], laidTests := true, laidLooks := .later }
def TopGroundUptoCardSaid : Prop := Claim7.holds Tryd.pinned (.plain (OpenSpec.upto topGroundSpec)) topGroundUptoCard

/-- THE SECOND FORM's CARD OF 'queristtop.TopRefused'. -/
def topRefusedUptoCard : Claim7 := { stood := { row := topRefusedUptoRow, standIns := [], harness := (true, "fed0e71f5d30ef964ca0ea8b16b5718291b74bed51c04730869cef241958f2d4"), looks := true }, kinds := [], alts := [], laidByText := true, laidKinds := [.data, .data, .data, .sentinel, .sentinel, .data], laidTests := true, laidLooks := .later }
def TopRefusedUptoCardSaid : Prop := Claim7.holds Tryd.pinned (.plain (OpenSpec.upto topRefusedSpec)) topRefusedUptoCard
end Rows
end Go.Proofs.YtlpmfkpefoegeacDoor
