/-
  DERIVED. GIVEN WITH THE SEED: THE CARDS: each row of YtflmllablfjfeaaDoorRows.lean that lists a variable, with what it lists TIED to the program's text (the seventh form; the later family's looks); each row that meets fmt, with fmt's text TOLD by the authors' own Lean function (tested against real Go, not proved from fmt's source: count such statements apart). THE CARD IS WHAT COUNTS. Prove the row's statement (the work); the ties are given (YtflmllablfjfeaaDoorTie.lean); close each card by the builder's one call (the guide's Derived/Test/ToyasCard.lean, 'card_holds'). Laid BY PROGRAM, IN A SANDBOX (cutbox-door.mjs). By AI agents, Wed Nov 11 2026. No macro, syntax, notation, axiom, sorry.
-/
import Derived.Test.YtflmllablfjfeaaDoorRows
import GoSem.ClaimSeven
namespace Go.Proofs.YtflmllablfjfeaaDoor
namespace Rows

/-- THE TIED CARD OF 'lyceumlaw12.FramePersists'. -/
def framePersistsCard : Claim7 := { stood := { row := framePersistsRow, standIns := [], harness := (true, "23fbe899e767196680c67feeb97a77cb8f8f04b19fe06fd626569196dea4f464"), looks := false }, kinds := [], alts := [], laidByText := true, laidKinds := [.data], laidTests := true, laidLooks := .later }
def FramePersistsCardSaid : Prop := Claim7.holds Tryd.pinned (.plain (OpenSpec.ofChange framePersistsSpec)) framePersistsCard

/-- THE TIED CARD OF 'lyceumlaw12.FrameForces'. -/
def frameForcesCard : Claim7 := { stood := { row := frameForcesRow, standIns := [], harness := (true, "23fbe899e767196680c67feeb97a77cb8f8f04b19fe06fd626569196dea4f464"), looks := false }, kinds := [], alts := [], laidByText := true, laidKinds := [.data], laidTests := true, laidLooks := .later }
def FrameForcesCardSaid : Prop := Claim7.holds Tryd.pinned (.plain (OpenSpec.ofChange frameForcesSpec)) frameForcesCard

/-- THE TIED CARD OF 'lyceumlaw12.FrameModal'. -/
def frameModalCard : Claim7 := { stood := { row := frameModalRow, standIns := [], harness := (true, "23fbe899e767196680c67feeb97a77cb8f8f04b19fe06fd626569196dea4f464"), looks := false }, kinds := [], alts := [], laidByText := true, laidKinds := [.data], laidTests := true, laidLooks := .later }
def FrameModalCardSaid : Prop := Claim7.holds Tryd.pinned (.plain (OpenSpec.ofChange frameModalSpec)) frameModalCard

/-- THE TIED CARD OF 'lyceumlaw12.FrameCloses'. -/
def frameClosesCard : Claim7 := { stood := { row := frameClosesRow, standIns := [], harness := (true, "23fbe899e767196680c67feeb97a77cb8f8f04b19fe06fd626569196dea4f464"), looks := false }, kinds := [], alts := [], laidByText := true, laidKinds := [.data], laidTests := true, laidLooks := .later }
def FrameClosesCardSaid : Prop := Claim7.holds Tryd.pinned (.plain (OpenSpec.ofChange frameClosesSpec)) frameClosesCard

/-- THE TIED CARD OF 'lyceumlaw12.FrameAxioms'. -/
def frameAxiomsCard : Claim7 := { stood := { row := frameAxiomsRow, standIns := [], harness := (true, "23fbe899e767196680c67feeb97a77cb8f8f04b19fe06fd626569196dea4f464"), looks := false }, kinds := [], alts := [], laidByText := true, laidKinds := [.data], laidTests := true, laidLooks := .later }
def FrameAxiomsCardSaid : Prop := Claim7.holds Tryd.pinned (.plain (OpenSpec.ofChange frameAxiomsSpec)) frameAxiomsCard

/-- THE TIED CARD OF 'lyceumlaw12.FrameCloser'. -/
def frameCloserCard : Claim7 := { stood := { row := frameCloserRow, standIns := [], harness := (true, "23fbe899e767196680c67feeb97a77cb8f8f04b19fe06fd626569196dea4f464"), looks := false }, kinds := [], alts := [], laidByText := true, laidKinds := [.data], laidTests := true, laidLooks := .later }
def FrameCloserCardSaid : Prop := Claim7.holds Tryd.pinned (.plain (OpenSpec.ofChange frameCloserSpec)) frameCloserCard

/-- THE TIED CARD OF 'lyceumlaw12.FramePart'. -/
def framePartCard : Claim7 := { stood := { row := framePartRow, standIns := [], harness := (true, "23fbe899e767196680c67feeb97a77cb8f8f04b19fe06fd626569196dea4f464"), looks := false }, kinds := [], alts := [], laidByText := true, laidKinds := [.data], laidTests := true, laidLooks := .later }
def FramePartCardSaid : Prop := Claim7.holds Tryd.pinned (.plain (OpenSpec.ofChange framePartSpec)) framePartCard

/-- THE TIED CARD OF 'lyceumlaw12.FrameOrder'. -/
def frameOrderCard : Claim7 := { stood := { row := frameOrderRow, standIns := [], harness := (true, "23fbe899e767196680c67feeb97a77cb8f8f04b19fe06fd626569196dea4f464"), looks := false }, kinds := [], alts := [], laidByText := true, laidKinds := [.data], laidTests := true, laidLooks := .later }
def FrameOrderCardSaid : Prop := Claim7.holds Tryd.pinned (.plain (OpenSpec.ofChange frameOrderSpec)) frameOrderCard

/-- THE TIED CARD OF 'lyceumlaw12.FrameWrong'. -/
def frameWrongCard : Claim7 := { stood := { row := frameWrongRow, standIns := [], harness := (true, "23fbe899e767196680c67feeb97a77cb8f8f04b19fe06fd626569196dea4f464"), looks := false }, kinds := [], alts := [], laidByText := true, laidKinds := [.data], laidTests := true, laidLooks := .later }
def FrameWrongCardSaid : Prop := Claim7.holds Tryd.pinned (.plain (OpenSpec.ofChange frameWrongSpec)) frameWrongCard

/-- THE SECOND FORM's CARD OF 'lyceumlaw12.FramePersists'. -/
def framePersistsUptoCard : Claim7 := { stood := { row := framePersistsUptoRow, standIns := [], harness := (true, "23fbe899e767196680c67feeb97a77cb8f8f04b19fe06fd626569196dea4f464"), looks := false }, kinds := [], alts := [], laidByText := true, laidKinds := [.data], laidTests := true, laidLooks := .later }
def FramePersistsUptoCardSaid : Prop := Claim7.holds Tryd.pinned (.plain (OpenSpec.upto framePersistsSpec)) framePersistsUptoCard

/-- THE SECOND FORM's CARD OF 'lyceumlaw12.FrameForces'. -/
def frameForcesUptoCard : Claim7 := { stood := { row := frameForcesUptoRow, standIns := [], harness := (true, "23fbe899e767196680c67feeb97a77cb8f8f04b19fe06fd626569196dea4f464"), looks := false }, kinds := [], alts := [], laidByText := true, laidKinds := [.data], laidTests := true, laidLooks := .later }
def FrameForcesUptoCardSaid : Prop := Claim7.holds Tryd.pinned (.plain (OpenSpec.upto frameForcesSpec)) frameForcesUptoCard

/-- THE SECOND FORM's CARD OF 'lyceumlaw12.FrameModal'. -/
def frameModalUptoCard : Claim7 := { stood := { row := frameModalUptoRow, standIns := [], harness := (true, "23fbe899e767196680c67feeb97a77cb8f8f04b19fe06fd626569196dea4f464"), looks := false }, kinds := [], alts := [], laidByText := true, laidKinds := [.data], laidTests := true, laidLooks := .later }
def FrameModalUptoCardSaid : Prop := Claim7.holds Tryd.pinned (.plain (OpenSpec.upto frameModalSpec)) frameModalUptoCard

/-- THE SECOND FORM's CARD OF 'lyceumlaw12.FrameCloses'. -/
def frameClosesUptoCard : Claim7 := { stood := { row := frameClosesUptoRow, standIns := [], harness := (true, "23fbe899e767196680c67feeb97a77cb8f8f04b19fe06fd626569196dea4f464"), looks := false }, kinds := [], alts := [], laidByText := true, laidKinds := [.data], laidTests := true, laidLooks := .later }
def FrameClosesUptoCardSaid : Prop := Claim7.holds Tryd.pinned (.plain (OpenSpec.upto frameClosesSpec)) frameClosesUptoCard

/-- THE SECOND FORM's CARD OF 'lyceumlaw12.FrameAxioms'. -/
def frameAxiomsUptoCard : Claim7 := { stood := { row := frameAxiomsUptoRow, standIns := [], harness := (true, "23fbe899e767196680c67feeb97a77cb8f8f04b19fe06fd626569196dea4f464"), looks := false }, kinds := [], alts := [], laidByText := true, laidKinds := [.data], laidTests := true, laidLooks := .later }
def FrameAxiomsUptoCardSaid : Prop := Claim7.holds Tryd.pinned (.plain (OpenSpec.upto frameAxiomsSpec)) frameAxiomsUptoCard

/-- THE SECOND FORM's CARD OF 'lyceumlaw12.FrameCloser'. -/
def frameCloserUptoCard : Claim7 := { stood := { row := frameCloserUptoRow, standIns := [], harness := (true, "23fbe899e767196680c67feeb97a77cb8f8f04b19fe06fd626569196dea4f464"), looks := false }, kinds := [], alts := [], laidByText := true, laidKinds := [.data], laidTests := true, laidLooks := .later }
def FrameCloserUptoCardSaid : Prop := Claim7.holds Tryd.pinned (.plain (OpenSpec.upto frameCloserSpec)) frameCloserUptoCard

/-- THE SECOND FORM's CARD OF 'lyceumlaw12.FramePart'. -/
def framePartUptoCard : Claim7 := { stood := { row := framePartUptoRow, standIns := [], harness := (true, "23fbe899e767196680c67feeb97a77cb8f8f04b19fe06fd626569196dea4f464"), looks := false }, kinds := [], alts := [], laidByText := true, laidKinds := [.data], laidTests := true, laidLooks := .later }
def FramePartUptoCardSaid : Prop := Claim7.holds Tryd.pinned (.plain (OpenSpec.upto framePartSpec)) framePartUptoCard

/-- THE SECOND FORM's CARD OF 'lyceumlaw12.FrameOrder'. -/
def frameOrderUptoCard : Claim7 := { stood := { row := frameOrderUptoRow, standIns := [], harness := (true, "23fbe899e767196680c67feeb97a77cb8f8f04b19fe06fd626569196dea4f464"), looks := false }, kinds := [], alts := [], laidByText := true, laidKinds := [.data], laidTests := true, laidLooks := .later }
def FrameOrderUptoCardSaid : Prop := Claim7.holds Tryd.pinned (.plain (OpenSpec.upto frameOrderSpec)) frameOrderUptoCard

/-- THE SECOND FORM's CARD OF 'lyceumlaw12.FrameWrong'. -/
def frameWrongUptoCard : Claim7 := { stood := { row := frameWrongUptoRow, standIns := [], harness := (true, "23fbe899e767196680c67feeb97a77cb8f8f04b19fe06fd626569196dea4f464"), looks := false }, kinds := [], alts := [], laidByText := true, laidKinds := [.data], laidTests := true, laidLooks := .later }
def FrameWrongUptoCardSaid : Prop := Claim7.holds Tryd.pinned (.plain (OpenSpec.upto frameWrongSpec)) frameWrongUptoCard
end Rows
end Go.Proofs.YtflmllablfjfeaaDoor
