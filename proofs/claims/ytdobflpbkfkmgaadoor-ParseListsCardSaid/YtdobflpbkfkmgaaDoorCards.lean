/-
  DERIVED. GIVEN WITH THE SEED: THE CARDS: each row of YtdobflpbkfkmgaaDoorRows.lean that lists a variable, with what it lists TIED to the program's text (the seventh form; the later family's looks); each row that meets fmt, with fmt's text TOLD by the authors' own Lean function (tested against real Go, not proved from fmt's source: count such statements apart). THE CARD IS WHAT COUNTS. Prove the row's statement (the work); the ties are given (YtdobflpbkfkmgaaDoorTie.lean); close each card by the builder's one call (the guide's Derived/Test/ToyasCard.lean, 'card_holds'). Laid BY PROGRAM, IN A SANDBOX (cutbox-door.mjs). By AI agents, Wed Nov 11 2026. No macro, syntax, notation, axiom, sorry.
-/
import Derived.Test.YtdobflpbkfkmgaaDoorRows
import GoSem.ClaimSeven
namespace Go.Proofs.YtdobflpbkfkmgaaDoor
namespace Rows

/-- THE TIED CARD OF 'lyceumlaw05.ParseWritten'. -/
def parseWrittenCard : Claim7 := { stood := { row := parseWrittenRow, standIns := [], harness := (true, "cc52e801231440eee4301685f0281ab06918e0caf90d441aefc72bbee59601ed"), looks := true }, kinds := [], alts := [], laidByText := true, laidKinds := [.data, .data, .data], laidTests := true, laidLooks := .later }
def ParseWrittenCardSaid : Prop := Claim7.holds Tryd.pinned (.plain (OpenSpec.ofChange parseWrittenSpec)) parseWrittenCard

/-- THE TIED CARD OF 'lyceumlaw05.ParseLevels'. -/
def parseLevelsCard : Claim7 := { stood := { row := parseLevelsRow, standIns := [], harness := (true, "cc52e801231440eee4301685f0281ab06918e0caf90d441aefc72bbee59601ed"), looks := true }, kinds := [], alts := [], laidByText := true, laidKinds := [.data, .data, .data], laidTests := true, laidLooks := .later }
def ParseLevelsCardSaid : Prop := Claim7.holds Tryd.pinned (.plain (OpenSpec.ofChange parseLevelsSpec)) parseLevelsCard

/-- THE TIED CARD OF 'lyceumlaw05.ParseFirst'. -/
def parseFirstCard : Claim7 := { stood := { row := parseFirstRow, standIns := [], harness := (true, "cc52e801231440eee4301685f0281ab06918e0caf90d441aefc72bbee59601ed"), looks := true }, kinds := [], alts := [], laidByText := true, laidKinds := [.data, .data, .data], laidTests := true, laidLooks := .later }
def ParseFirstCardSaid : Prop := Claim7.holds Tryd.pinned (.plain (OpenSpec.ofChange parseFirstSpec)) parseFirstCard

/-- THE TIED CARD OF 'lyceumlaw05.ParseLists'. -/
def parseListsCard : Claim7 := { stood := { row := parseListsRow, standIns := [], harness := (true, "cc52e801231440eee4301685f0281ab06918e0caf90d441aefc72bbee59601ed"), looks := true }, kinds := [], alts := [], laidByText := true, laidKinds := [.data, .data, .data], laidTests := true, laidLooks := .later }
def ParseListsCardSaid : Prop := Claim7.holds Tryd.pinned (.plain (OpenSpec.ofChange parseListsSpec)) parseListsCard

/-- THE TIED CARD OF 'lyceumlaw05.ParseOnly'. -/
def parseOnlyCard : Claim7 := { stood := { row := parseOnlyRow, standIns := [], harness := (true, "cc52e801231440eee4301685f0281ab06918e0caf90d441aefc72bbee59601ed"), looks := true }, kinds := [], alts := [], laidByText := true, laidKinds := [.data, .data, .data], laidTests := true, laidLooks := .later }
def ParseOnlyCardSaid : Prop := Claim7.holds Tryd.pinned (.plain (OpenSpec.ofChange parseOnlySpec)) parseOnlyCard

/-- THE TIED CARD OF 'lyceumlaw05.ParseBlanks'. -/
def parseBlanksCard : Claim7 := { stood := { row := parseBlanksRow, standIns := [], harness := (true, "cc52e801231440eee4301685f0281ab06918e0caf90d441aefc72bbee59601ed"), looks := true }, kinds := [], alts := [], laidByText := true, laidKinds := [.data, .data, .data], laidTests := true, laidLooks := .later }
def ParseBlanksCardSaid : Prop := Claim7.holds Tryd.pinned (.plain (OpenSpec.ofChange parseBlanksSpec)) parseBlanksCard

/-- THE SECOND FORM's CARD OF 'lyceumlaw05.ParseWritten'. -/
def parseWrittenUptoCard : Claim7 := { stood := { row := parseWrittenUptoRow, standIns := [], harness := (true, "cc52e801231440eee4301685f0281ab06918e0caf90d441aefc72bbee59601ed"), looks := true }, kinds := [], alts := [], laidByText := true, laidKinds := [.data, .data, .data], laidTests := true, laidLooks := .later }
def ParseWrittenUptoCardSaid : Prop := Claim7.holds Tryd.pinned (.plain (OpenSpec.upto parseWrittenSpec)) parseWrittenUptoCard

/-- THE SECOND FORM's CARD OF 'lyceumlaw05.ParseLevels'. -/
def parseLevelsUptoCard : Claim7 := { stood := { row := parseLevelsUptoRow, standIns := [], harness := (true, "cc52e801231440eee4301685f0281ab06918e0caf90d441aefc72bbee59601ed"), looks := true }, kinds := [], alts := [], laidByText := true, laidKinds := [.data, .data, .data], laidTests := true, laidLooks := .later }
def ParseLevelsUptoCardSaid : Prop := Claim7.holds Tryd.pinned (.plain (OpenSpec.upto parseLevelsSpec)) parseLevelsUptoCard

/-- THE SECOND FORM's CARD OF 'lyceumlaw05.ParseFirst'. -/
def parseFirstUptoCard : Claim7 := { stood := { row := parseFirstUptoRow, standIns := [], harness := (true, "cc52e801231440eee4301685f0281ab06918e0caf90d441aefc72bbee59601ed"), looks := true }, kinds := [], alts := [], laidByText := true, laidKinds := [.data, .data, .data], laidTests := true, laidLooks := .later }
def ParseFirstUptoCardSaid : Prop := Claim7.holds Tryd.pinned (.plain (OpenSpec.upto parseFirstSpec)) parseFirstUptoCard

/-- THE SECOND FORM's CARD OF 'lyceumlaw05.ParseLists'. -/
def parseListsUptoCard : Claim7 := { stood := { row := parseListsUptoRow, standIns := [], harness := (true, "cc52e801231440eee4301685f0281ab06918e0caf90d441aefc72bbee59601ed"), looks := true }, kinds := [], alts := [], laidByText := true, laidKinds := [.data, .data, .data], laidTests := true, laidLooks := .later }
def ParseListsUptoCardSaid : Prop := Claim7.holds Tryd.pinned (.plain (OpenSpec.upto parseListsSpec)) parseListsUptoCard

/-- THE SECOND FORM's CARD OF 'lyceumlaw05.ParseOnly'. -/
def parseOnlyUptoCard : Claim7 := { stood := { row := parseOnlyUptoRow, standIns := [], harness := (true, "cc52e801231440eee4301685f0281ab06918e0caf90d441aefc72bbee59601ed"), looks := true }, kinds := [], alts := [], laidByText := true, laidKinds := [.data, .data, .data], laidTests := true, laidLooks := .later }
def ParseOnlyUptoCardSaid : Prop := Claim7.holds Tryd.pinned (.plain (OpenSpec.upto parseOnlySpec)) parseOnlyUptoCard

/-- THE SECOND FORM's CARD OF 'lyceumlaw05.ParseBlanks'. -/
def parseBlanksUptoCard : Claim7 := { stood := { row := parseBlanksUptoRow, standIns := [], harness := (true, "cc52e801231440eee4301685f0281ab06918e0caf90d441aefc72bbee59601ed"), looks := true }, kinds := [], alts := [], laidByText := true, laidKinds := [.data, .data, .data], laidTests := true, laidLooks := .later }
def ParseBlanksUptoCardSaid : Prop := Claim7.holds Tryd.pinned (.plain (OpenSpec.upto parseBlanksSpec)) parseBlanksUptoCard
end Rows
end Go.Proofs.YtdobflpbkfkmgaaDoor
