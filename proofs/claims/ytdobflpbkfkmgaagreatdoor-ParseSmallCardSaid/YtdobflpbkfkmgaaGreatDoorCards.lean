/-
  DERIVED. GIVEN WITH THE SEED: THE CARDS: each row of YtdobflpbkfkmgaaGreatDoorRows.lean that lists a variable, with what it lists TIED to the program's text (the seventh form; the later family's looks); each row that meets fmt, with fmt's text TOLD by the authors' own Lean function (tested against real Go, not proved from fmt's source: count such statements apart). THE CARD IS WHAT COUNTS. Prove the row's statement (the work); the ties are given (YtdobflpbkfkmgaaGreatDoorTie.lean); close each card by the builder's one call (the guide's Derived/Test/ToyasCard.lean, 'card_holds'). Laid BY PROGRAM, IN A SANDBOX (cutbox-door.mjs). By AI agents, Wed Nov 11 2026. No macro, syntax, notation, axiom, sorry.
-/
import Derived.Test.YtdobflpbkfkmgaaGreatDoorRows
import GoSem.ClaimSeven
namespace Go.Proofs.YtdobflpbkfkmgaaGreatDoor
namespace Rows

/-- THE TIED CARD OF 'lyceumlaw05.ParseTells'. -/
def parseTellsCard : Claim7 := { stood := { row := parseTellsRow, standIns := [], harness := (true, "3606ed53c6d063535f6c3bb844ffb5a5773250f25dd15d49f73325ad85286d4d"), looks := true }, kinds := [], alts := [], laidByText := true, laidKinds := [.data, .data, .data], laidTests := true, laidLooks := .later }
def ParseTellsCardSaid : Prop := Claim7.holds Tryz.pinned (.plain (OpenSpec.ofChange parseTellsSpec)) parseTellsCard

/-- THE TIED CARD OF 'lyceumlaw05.ParseSmall'. -/
def parseSmallCard : Claim7 := { stood := { row := parseSmallRow, standIns := [], harness := (true, "3606ed53c6d063535f6c3bb844ffb5a5773250f25dd15d49f73325ad85286d4d"), looks := true }, kinds := [], alts := [], laidByText := true, laidKinds := [.data, .data, .data], laidTests := true, laidLooks := .later }
def ParseSmallCardSaid : Prop := Claim7.holds Tryz.pinned (.plain (OpenSpec.ofChange parseSmallSpec)) parseSmallCard

/-- THE SECOND FORM's CARD OF 'lyceumlaw05.ParseTells'. -/
def parseTellsUptoCard : Claim7 := { stood := { row := parseTellsUptoRow, standIns := [], harness := (true, "3606ed53c6d063535f6c3bb844ffb5a5773250f25dd15d49f73325ad85286d4d"), looks := true }, kinds := [], alts := [], laidByText := true, laidKinds := [.data, .data, .data], laidTests := true, laidLooks := .later }
def ParseTellsUptoCardSaid : Prop := Claim7.holds Tryz.pinned (.plain (OpenSpec.upto parseTellsSpec)) parseTellsUptoCard

/-- THE SECOND FORM's CARD OF 'lyceumlaw05.ParseSmall'. -/
def parseSmallUptoCard : Claim7 := { stood := { row := parseSmallUptoRow, standIns := [], harness := (true, "3606ed53c6d063535f6c3bb844ffb5a5773250f25dd15d49f73325ad85286d4d"), looks := true }, kinds := [], alts := [], laidByText := true, laidKinds := [.data, .data, .data], laidTests := true, laidLooks := .later }
def ParseSmallUptoCardSaid : Prop := Claim7.holds Tryz.pinned (.plain (OpenSpec.upto parseSmallSpec)) parseSmallUptoCard
end Rows
end Go.Proofs.YtdobflpbkfkmgaaGreatDoor
