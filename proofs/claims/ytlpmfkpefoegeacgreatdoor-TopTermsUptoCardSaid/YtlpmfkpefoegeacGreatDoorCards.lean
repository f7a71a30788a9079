/-
  DERIVED. GIVEN WITH THE SEED: THE CARDS: each row of YtlpmfkpefoegeacGreatDoorRows.lean that lists a variable, with what it lists TIED to the program's text (the seventh form; the later family's looks); each row that meets fmt, with fmt's text TOLD by the authors' own Lean function (tested against real Go, not proved from fmt's source: count such statements apart). THE CARD IS WHAT COUNTS. Prove the row's statement (the work); the ties are given (YtlpmfkpefoegeacGreatDoorTie.lean); close each card by the builder's one call (the guide's Derived/Test/ToyasCard.lean, 'card_holds'). Laid BY PROGRAM, IN A SANDBOX (cutbox-door.mjs). By AI agents, Wed Nov 11 2026. No macro, syntax, notation, axiom, sorry.
-/
import Derived.Test.YtlpmfkpefoegeacGreatDoorRows
import GoSem.ClaimSeven
namespace Go.Proofs.YtlpmfkpefoegeacGreatDoor
namespace Rows

/-- THE TIED CARD OF 'queristlaw.RunAll'. -/
def runAllCard : Claim7 := { stood := { row := runAllRow, standIns := [], harness := (true, "af5389f493e7d30717664426a5bfad112ecdd42f692cfa86e6d24611535b19e2"), looks := true }, kinds := [], alts := [], laidByText := true, laidKinds := [.data, .pinned], laidTests := true, laidLooks := .later }
def RunAllCardSaid : Prop := Claim7.holds Tryz.pinned (.plain (OpenSpec.ofChange runAllSpec)) runAllCard

/-- THE TIED CARD OF 'queristlaw.ReadQueries'. -/
def readQueriesCard : Claim7 := { stood := { row := readQueriesRow, standIns := [], harness := (true, "af5389f493e7d30717664426a5bfad112ecdd42f692cfa86e6d24611535b19e2"), looks := true }, kinds := [], alts := [], laidByText := true, laidKinds := [.data, .data, .data, .data, .sentinel, .sentinel, .pinned], laidTests := true, laidLooks := .later }
def ReadQueriesCardSaid : Prop := Claim7.holds Tryz.pinned (.plain (OpenSpec.ofChange readQueriesSpec)) readQueriesCard

/-- THE TIED CARD OF 'queristlaw.EngineLines'. -/
def engineLinesCard : Claim7 := { stood := { row := engineLinesRow, standIns := [], harness := (true, "af5389f493e7d30717664426a5bfad112ecdd42f692cfa86e6d24611535b19e2"), looks := true }, kinds := [], alts := [], laidByText := true, laidKinds := [.data, .data, .data, .sentinel, .sentinel, .data], laidTests := true, laidLooks := .later }
def EngineLinesCardSaid : Prop := Claim7.holds Tryz.pinned (.plain (OpenSpec.ofChange engineLinesSpec)) engineLinesCard

/-- THE TIED CARD OF 'queristlaw.EngineAsks'. -/
def engineAsksCard : Claim7 := { stood := { row := engineAsksRow, standIns := [], harness := (true, "af5389f493e7d30717664426a5bfad112ecdd42f692cfa86e6d24611535b19e2"), looks := true }, kinds := [], alts := [], laidByText := true, laidKinds := [.data, .data, .data, .data, .sentinel, .sentinel, .data, .pinned], laidTests := true, laidLooks := .later }
def EngineAsksCardSaid : Prop := Claim7.holds Tryz.pinned (.plain (OpenSpec.ofChange engineAsksSpec)) engineAsksCard

/-- THE TIED CARD OF 'queristtop.TopTerms'. -/
def topTermsCard : Claim7 := { stood := { row := topTermsRow, standIns := [], harness := (true, "af5389f493e7d30717664426a5bfad112ecdd42f692cfa86e6d24611535b19e2"), looks := true }, kinds := [], alts := [], laidByText := true, laidKinds := [.data, .data, .data, .sentinel, .sentinel, .data], laidTests := true, laidLooks := .later }
def TopTermsCardSaid : Prop := Claim7.holds Tryz.pinned (.plain (OpenSpec.ofChange topTermsSpec)) topTermsCard

/-- THE SECOND FORM's CARD OF 'queristlaw.RunAll'. -/
def runAllUptoCard : Claim7 := { stood := { row := runAllUptoRow, standIns := [], harness := (true, "af5389f493e7d30717664426a5bfad112ecdd42f692cfa86e6d24611535b19e2"), looks := true }, kinds := [], alts := [], laidByText := true, laidKinds := [.data, .pinned], laidTests := true, laidLooks := .later }
def RunAllUptoCardSaid : Prop := Claim7.holds Tryz.pinned (.plain (OpenSpec.upto runAllSpec)) runAllUptoCard

/-- THE SECOND FORM's CARD OF 'queristlaw.ReadQueries'. -/
def readQueriesUptoCard : Claim7 := { stood := { row := readQueriesUptoRow, standIns := [], harness := (true, "af5389f493e7d30717664426a5bfad112ecdd42f692cfa86e6d24611535b19e2"), looks := true }, kinds := [], alts := [], laidByText := true, laidKinds := [.data, .data, .data, .data, .sentinel, .sentinel, .pinned], laidTests := true, laidLooks := .later }
def ReadQueriesUptoCardSaid : Prop := Claim7.holds Tryz.pinned (.plain (OpenSpec.upto readQueriesSpec)) readQueriesUptoCard

/-- THE SECOND FORM's CARD OF 'queristlaw.EngineLines'. -/
def engineLinesUptoCard : Claim7 := { stood := { row := engineLinesUptoRow, standIns := [], harness := (true, "af5389f493e7d30717664426a5bfad112ecdd42f692cfa86e6d24611535b19e2"), looks := true }, kinds := [], alts := [], laidByText := true, laidKinds := [.data, .data, .data, .sentinel, .sentinel, .data], laidTests := true, laidLooks := .later }
def EngineLinesUptoCardSaid : Prop := Claim7.holds Tryz.pinned (.plain (OpenSpec.upto engineLinesSpec)) engineLinesUptoCard

/-- THE SECOND FORM's CARD OF 'queristlaw.EngineAsks'. -/
def engineAsksUptoCard : Claim7 := { stood := { row := engineAsksUptoRow, standIns := [], harness := (true, "af5389f493e7d30717664426a5bfad112ecdd42f692cfa86e6d24611535b19e2"), looks := true }, kinds := [], alts := [], laidByText := true, laidKinds := [.data, .data, .data, .data, .sentinel, .sentinel, .data, .pinned], laidTests := true, laidLooks := .later }
def EngineAsksUptoCardSaid : Prop := Claim7.holds Tryz.pinned (.plain (OpenSpec.upto engineAsksSpec)) engineAsksUptoCard

/-- THE SECOND FORM's CARD OF 'queristtop.TopTerms'. -/
def topTermsUptoCard : Claim7 := { stood := { row := topTermsUptoRow, standIns := [], harness := (true, "af5389f493e7d30717664426a5bfad112ecdd42f692cfa86e6d24611535b19e2"), looks := true }, kinds := [], alts := [], laidByText := true, laidKinds := [.data, .data, .data, .sentinel, .sentinel, .data], laidTests := true, laidLooks := .later }
def TopTermsUptoCardSaid : Prop := Claim7.holds Tryz.pinned (.plain (OpenSpec.upto topTermsSpec)) topTermsUptoCard
end Rows
end Go.Proofs.YtlpmfkpefoegeacGreatDoor
