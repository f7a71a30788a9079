/-
  DERIVED. GIVEN WITH THE SEED: THE CARDS: each row of YtlpmfkpefoegeabDoorRows.lean that lists a variable, with what it lists TIED to the program's text (the seventh form; the later family's looks); each row that meets fmt, with fmt's text TOLD by the authors' own Lean function (tested against real Go, not proved from fmt's source: count such statements apart). THE CARD IS WHAT COUNTS. Prove the row's statement (the work); the ties are given (YtlpmfkpefoegeabDoorTie.lean); close each card by the builder's one call (the guide's Derived/Test/ToyasCard.lean, 'card_holds'). Laid BY PROGRAM, IN A SANDBOX (cutbox-door.mjs). By AI agents, Wed Nov 11 2026. No macro, syntax, notation, axiom, sorry.
-/
import Derived.Test.YtlpmfkpefoegeabDoorRows
import GoSem.ClaimSeven
namespace Go.Proofs.YtlpmfkpefoegeabDoor
namespace Rows

/-- THE TIED CARD OF 'queristtop.TopMore'. -/
def topMoreCard : Claim7 := { stood := { row := topMoreRow, standIns := [], harness := (true, "63c45d8a551bc2d98b5d6c44da6ff843c547870e914c4380dcf9708e06826093"), looks := true }, kinds := [], alts := [], laidByText := true, laidKinds := [.data, .data, .data, .sentinel, .sentinel, .data], laidTests := true, laidLooks := .later }
def TopMoreCardSaid : Prop := Claim7.holds Tryd.pinned (.plain (OpenSpec.ofChange topMoreSpec)) topMoreCard

/-- THE TIED CARD OF 'queristtop.TopEnds'. -/
def topEndsCard : Claim7 := { stood := { row := topEndsRow, standIns := [], harness := (true, "63c45d8a551bc2d98b5d6c44da6ff843c547870e914c4380dcf9708e06826093"), looks := true }, kinds := [], alts := [], laidByText := true, laidKinds := [.data, .data, .data, .sentinel, .sentinel, .data], laidTests := true, laidLooks := .later }
def TopEndsCardSaid : Prop := Claim7.holds Tryd.pinned (.plain (OpenSpec.ofChange topEndsSpec)) topEndsCard

/-- THE TIED CARD OF 'queristlaw.TermTells'. -/
def termTellsCard : Claim7 := { stood := { row := termTellsRow, standIns := [], harness := (true, "63c45d8a551bc2d98b5d6c44da6ff843c547870e914c4380dcf9708e06826093"), looks := true }, kinds := [], alts := [], laidByText := true, laidKinds := [.data, .pinned], laidTests := true, laidLooks := .later }
def TermTellsCardSaid : Prop := Claim7.holds Tryd.pinned (.plain (OpenSpec.ofChange termTellsSpec)) termTellsCard

/-- THE TIED CARD OF 'queristlaw.CodeBlocks'. -/
def codeBlocksCard : Claim7 := { stood := { row := codeBlocksRow, standIns := [], harness := (true, "63c45d8a551bc2d98b5d6c44da6ff843c547870e914c4380dcf9708e06826093"), looks := true }, kinds := [], alts := [], laidByText := true, laidKinds := [.data, .pinned], laidTests := true, laidLooks := .later }
def CodeBlocksCardSaid : Prop := Claim7.holds Tryd.pinned (.plain (OpenSpec.ofChange codeBlocksSpec)) codeBlocksCard

/-- THE TIED CARD OF 'queristlaw.SolveAll'. -/
def solveAllCard : Claim7 := { stood := { row := solveAllRow, standIns := [], harness := (true, "63c45d8a551bc2d98b5d6c44da6ff843c547870e914c4380dcf9708e06826093"), looks := true }, kinds := [], alts := [], laidByText := true, laidKinds := [.data, .pinned], laidTests := true, laidLooks := .later }
def SolveAllCardSaid : Prop := Claim7.holds Tryd.pinned (.plain (OpenSpec.ofChange solveAllSpec)) solveAllCard

/-- THE TIED CARD OF 'queristkeep.ReadSpaces'. -/
def readSpacesCard : Claim7 := { stood := { row := readSpacesRow, standIns := [], harness := (true, "63c45d8a551bc2d98b5d6c44da6ff843c547870e914c4380dcf9708e06826093"), looks := true }, kinds := [], alts := [], laidByText := true, laidKinds := [.data, .data, .data, .sentinel, .sentinel], laidTests := true, laidLooks := .later }
def ReadSpacesCardSaid : Prop := Claim7.holds Tryd.pinned (.plain (OpenSpec.ofChange readSpacesSpec)) readSpacesCard

/-- THE SECOND FORM's CARD OF 'queristtop.TopMore'. -/
def topMoreUptoCard : Claim7 := { stood := { row := topMoreUptoRow, standIns := [], harness := (true, "63c45d8a551bc2d98b5d6c44da6ff843c547870e914c4380dcf9708e06826093"), looks := true }, kinds := [], alts := [], laidByText := true, laidKinds := [.data, .data, .data, .sentinel, .sentinel, .data], laidTests := true, laidLooks := .later }
def TopMoreUptoCardSaid : Prop := Claim7.holds Tryd.pinned (.plain (OpenSpec.upto topMoreSpec)) topMoreUptoCard

/-- THE SECOND FORM's CARD OF 'queristtop.TopEnds'. -/
def topEndsUptoCard : Claim7 := { stood := { row := topEndsUptoRow, standIns := [], harness := (true, "63c45d8a551bc2d98b5d6c44da6ff843c547870e914c4380dcf9708e06826093"), looks := true }, kinds := [], alts := [], laidByText := true, laidKinds := [.data, .data, .data, .sentinel, .sentinel, .data], laidTests := true, laidLooks := .later }
def TopEndsUptoCardSaid : Prop := Claim7.holds Tryd.pinned (.plain (OpenSpec.upto topEndsSpec)) topEndsUptoCard

/-- THE SECOND FORM's CARD OF 'queristlaw.TermTells'. -/
def termTellsUptoCard : Claim7 := { stood := { row := termTellsUptoRow, standIns := [], harness := (true, "63c45d8a551bc2d98b5d6c44da6ff843c547870e914c4380dcf9708e06826093"), looks := true }, kinds := [], alts := [], laidByText := true, laidKinds := [.data, .pinned], laidTests := true, laidLooks := .later }
def TermTellsUptoCardSaid : Prop := Claim7.holds Tryd.pinned (.plain (OpenSpec.upto termTellsSpec)) termTellsUptoCard

/-- THE SECOND FORM's CARD OF 'queristlaw.CodeBlocks'. -/
def codeBlocksUptoCard : Claim7 := { stood := { row := codeBlocksUptoRow, standIns := [], harness := (true, "63c45d8a551bc2d98b5d6c44da6ff843c547870e914c4380dcf9708e06826093"), looks := true }, kinds := [], alts := [], laidByText := true, laidKinds := [.data, .pinned], laidTests := true, laidLooks := .later }
def CodeBlocksUptoCardSaid : Prop := Claim7.holds Tryd.pinned (.plain (OpenSpec.upto codeBlocksSpec)) codeBlocksUptoCard

/-- THE SECOND FORM's CARD OF 'queristlaw.SolveAll'. -/
def solveAllUptoCard : Claim7 := { stood := { row := solveAllUptoRow, standIns := [], harness := (true, "63c45d8a551bc2d98b5d6c44da6ff843c547870e914c4380dcf9708e06826093"), looks := true }, kinds := [], alts := [], laidByText := true, laidKinds := [.data, .pinned], laidTests := true, laidLooks := .later }
def SolveAllUptoCardSaid : Prop := Claim7.holds Tryd.pinned (.plain (OpenSpec.upto solveAllSpec)) solveAllUptoCard

/-- THE SECOND FORM's CARD OF 'queristkeep.ReadSpaces'. -/
def readSpacesUptoCard : Claim7 := { stood := { row := readSpacesUptoRow, standIns := [], harness := (true, "63c45d8a551bc2d98b5d6c44da6ff843c547870e914c4380dcf9708e06826093"), looks := true }, kinds := [], alts := [], laidByText := true, laidKinds := [.data, .data, .data, .sentinel, .sentinel], laidTests := true, laidLooks := .later }
def ReadSpacesUptoCardSaid : Prop := Claim7.holds Tryd.pinned (.plain (OpenSpec.upto readSpacesSpec)) readSpacesUptoCard
end Rows
end Go.Proofs.YtlpmfkpefoegeabDoor
