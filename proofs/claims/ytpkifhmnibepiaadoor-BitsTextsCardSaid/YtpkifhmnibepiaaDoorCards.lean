/-
  DERIVED. GIVEN WITH THE SEED: THE CARDS: each row of YtpkifhmnibepiaaDoorRows.lean that lists a variable, with what it lists TIED to the program's text (the seventh form; the later family's looks); each row that meets fmt, with fmt's text TOLD by the authors' own Lean function (tested against real Go, not proved from fmt's source: count such statements apart). THE CARD IS WHAT COUNTS. Prove the row's statement (the work); the ties are given (YtpkifhmnibepiaaDoorTie.lean); close each card by the builder's one call (the guide's Derived/Test/ToyasCard.lean, 'card_holds'). Laid BY PROGRAM, IN A SANDBOX (cutbox-door.mjs). By AI agents, Wed Nov 11 2026. No macro, syntax, notation, axiom, sorry.
-/
import Derived.Test.YtpkifhmnibepiaaDoorRows
import GoSem.ClaimSeven
namespace Go.Proofs.YtpkifhmnibepiaaDoor
namespace Rows

/-- THE TIED CARD OF 'meridianlaw1.ArcReads'. -/
def arcReadsCard : Claim7 := { stood := { row := arcReadsRow, standIns := [], harness := (true, "7de4096efa696e8cb2e9b686ba81c08c63c717fb8e9dda66b3dbe80813bd9cc7"), looks := true }, kinds := [], alts := [], laidByText := true, laidKinds := [.handle, .sentinel, .sentinel, .sentinel, .sentinel, .sentinel, .sentinel, .sentinel, .sentinel, .sentinel, .sentinel], laidTests := true, laidLooks := .later }
def ArcReadsCardSaid : Prop := Claim7.holds Tryd.pinned (.plain (OpenSpec.ofChange arcReadsSpec)) arcReadsCard

/-- THE TIED CARD OF 'meridianlaw1.ArcTexts'. -/
def arcTextsCard : Claim7 := { stood := { row := arcTextsRow, standIns := [], harness := (true, "7de4096efa696e8cb2e9b686ba81c08c63c717fb8e9dda66b3dbe80813bd9cc7"), looks := true }, kinds := [], alts := [], laidByText := true, laidKinds := [.data, .data, .data], laidTests := true, laidLooks := .later }
def ArcTextsCardSaid : Prop := Claim7.holds Tryd.pinned (.plain (OpenSpec.ofChange arcTextsSpec)) arcTextsCard

/-- THE TIED CARD OF 'meridianlaw1.BitsTexts'. -/
def bitsTextsCard : Claim7 := { stood := { row := bitsTextsRow, standIns := [], harness := (true, "7de4096efa696e8cb2e9b686ba81c08c63c717fb8e9dda66b3dbe80813bd9cc7"), looks := true }, kinds := [], alts := [], laidByText := true, laidKinds := [.data, .data, .data, .handle, .sentinel, .sentinel, .sentinel, .sentinel, .sentinel, .sentinel, .sentinel, .sentinel, .sentinel, .sentinel], laidTests := true, laidLooks := .later }
def BitsTextsCardSaid : Prop := Claim7.holds Tryd.pinned (.plain (OpenSpec.ofChange bitsTextsSpec)) bitsTextsCard

/-- THE TIED CARD OF 'meridianlaw1.ArcBack'. -/
def arcBackCard : Claim7 := { stood := { row := arcBackRow, standIns := [], harness := (true, "7de4096efa696e8cb2e9b686ba81c08c63c717fb8e9dda66b3dbe80813bd9cc7"), looks := true }, kinds := [], alts := [], laidByText := true, laidKinds := [.data, .data, .data, .sentinel], laidTests := true, laidLooks := .later }
def ArcBackCardSaid : Prop := Claim7.holds Tryd.pinned (.plain (OpenSpec.ofChange arcBackSpec)) arcBackCard

/-- THE TIED CARD OF 'meridianlaw4.LightRounds'. -/
def lightRoundsCard : Claim7 := { stood := { row := lightRoundsRow, standIns := [], harness := (true, "7de4096efa696e8cb2e9b686ba81c08c63c717fb8e9dda66b3dbe80813bd9cc7"), looks := true }, kinds := [], alts := [], laidByText := true, laidKinds := [.handle, .sentinel, .sentinel, .sentinel, .sentinel, .sentinel, .sentinel, .sentinel, .sentinel, .sentinel, .sentinel], laidTests := true, laidLooks := .later }
def LightRoundsCardSaid : Prop := Claim7.holds Tryd.pinned (.plain (OpenSpec.ofChange lightRoundsSpec)) lightRoundsCard

/-- THE TIED CARD OF 'meridianlaw4.FrameStacks'. -/
def frameStacksCard : Claim7 := { stood := { row := frameStacksRow, standIns := [], harness := (true, "7de4096efa696e8cb2e9b686ba81c08c63c717fb8e9dda66b3dbe80813bd9cc7"), looks := true }, kinds := [], alts := [], laidByText := true, laidKinds := [.handle, .sentinel, .sentinel, .sentinel, .sentinel, .sentinel, .sentinel, .sentinel, .sentinel, .sentinel, .sentinel], laidTests := true, laidLooks := .later }
def FrameStacksCardSaid : Prop := Claim7.holds Tryd.pinned (.plain (OpenSpec.ofChange frameStacksSpec)) frameStacksCard

/-- THE TIED CARD OF 'meridianlaw1.TickTexts'. -/
def tickTextsCard : Claim7 := { stood := { row := tickTextsRow, standIns := [], harness := (true, "7de4096efa696e8cb2e9b686ba81c08c63c717fb8e9dda66b3dbe80813bd9cc7"), looks := true }, kinds := [], alts := [], laidByText := true, laidKinds := [.data, .data, .data, .handle, .sentinel, .sentinel, .sentinel, .sentinel, .sentinel, .sentinel, .sentinel, .sentinel, .sentinel, .sentinel], laidTests := true, laidLooks := .later }
def TickTextsCardSaid : Prop := Claim7.holds Tryd.pinned (.plain (OpenSpec.ofChange tickTextsSpec)) tickTextsCard

/-- THE TIED CARD OF 'meridianlaw4.SpotsMoved'. -/
def spotsMovedCard : Claim7 := { stood := { row := spotsMovedRow, standIns := [], harness := (true, "7de4096efa696e8cb2e9b686ba81c08c63c717fb8e9dda66b3dbe80813bd9cc7"), looks := true }, kinds := [], alts := [], laidByText := true, laidKinds := [.sentinel, .sentinel], laidTests := true, laidLooks := .later }
def SpotsMovedCardSaid : Prop := Claim7.holds Tryd.pinned (.plain (OpenSpec.ofChange spotsMovedSpec)) spotsMovedCard

/-- THE TIED CARD OF 'meridianlaw4.SpotsGround'. -/
def spotsGroundCard : Claim7 := { stood := { row := spotsGroundRow, standIns := [], harness := (true, "7de4096efa696e8cb2e9b686ba81c08c63c717fb8e9dda66b3dbe80813bd9cc7"), looks := true }, kinds := [], alts := [], laidByText := true, laidKinds := [.handle, .sentinel, .sentinel, .sentinel, .sentinel, .sentinel, .sentinel, .sentinel, .sentinel, .sentinel, .sentinel], laidTests := true, laidLooks := .later }
def SpotsGroundCardSaid : Prop := Claim7.holds Tryd.pinned (.plain (OpenSpec.ofChange spotsGroundSpec)) spotsGroundCard

/-- THE TIED CARD OF 'meridianlaw4.SpotsFound'. -/
def spotsFoundCard : Claim7 := { stood := { row := spotsFoundRow, standIns := [], harness := (true, "7de4096efa696e8cb2e9b686ba81c08c63c717fb8e9dda66b3dbe80813bd9cc7"), looks := true }, kinds := [], alts := [], laidByText := true, laidKinds := [.handle, .sentinel, .sentinel, .sentinel, .sentinel, .sentinel, .sentinel, .sentinel, .sentinel, .sentinel, .sentinel], laidTests := true, laidLooks := .later }
def SpotsFoundCardSaid : Prop := Claim7.holds Tryd.pinned (.plain (OpenSpec.ofChange spotsFoundSpec)) spotsFoundCard

/-- THE SECOND FORM's CARD OF 'meridianlaw1.ArcReads'. -/
def arcReadsUptoCard : Claim7 := { stood := { row := arcReadsUptoRow, standIns := [], harness := (true, "7de4096efa696e8cb2e9b686ba81c08c63c717fb8e9dda66b3dbe80813bd9cc7"), looks := true }, kinds := [], alts := [], laidByText := true, laidKinds := [.handle, .sentinel, .sentinel, .sentinel, .sentinel, .sentinel, .sentinel, .sentinel, .sentinel, .sentinel, .sentinel], laidTests := true, laidLooks := .later }
def ArcReadsUptoCardSaid : Prop := Claim7.holds Tryd.pinned (.plain (OpenSpec.upto arcReadsSpec)) arcReadsUptoCard

/-- THE SECOND FORM's CARD OF 'meridianlaw1.ArcTexts'. -/
def arcTextsUptoCard : Claim7 := { stood := { row := arcTextsUptoRow, standIns := [], harness := (true, "7de4096efa696e8cb2e9b686ba81c08c63c717fb8e9dda66b3dbe80813bd9cc7"), looks := true }, kinds := [], alts := [], laidByText := true, laidKinds := [.data, .data, .data], laidTests := true, laidLooks := .later }
def ArcTextsUptoCardSaid : Prop := Claim7.holds Tryd.pinned (.plain (OpenSpec.upto arcTextsSpec)) arcTextsUptoCard

/-- THE SECOND FORM's CARD OF 'meridianlaw1.BitsTexts'. -/
def bitsTextsUptoCard : Claim7 := { stood := { row := bitsTextsUptoRow, standIns := [], harness := (true, "7de4096efa696e8cb2e9b686ba81c08c63c717fb8e9dda66b3dbe80813bd9cc7"), looks := true }, kinds := [], alts := [], laidByText := true, laidKinds := [.data, .data, .data, .handle, .sentinel, .sentinel, .sentinel, .sentinel, .sentinel, .sentinel, .sentinel, .sentinel, .sentinel, .sentinel], laidTests := true, laidLooks := .later }
def BitsTextsUptoCardSaid : Prop := Claim7.holds Tryd.pinned (.plain (OpenSpec.upto bitsTextsSpec)) bitsTextsUptoCard

/-- THE SECOND FORM's CARD OF 'meridianlaw1.ArcBack'. -/
def arcBackUptoCard : Claim7 := { stood := { row := arcBackUptoRow, standIns := [], harness := (true, "7de4096efa696e8cb2e9b686ba81c08c63c717fb8e9dda66b3dbe80813bd9cc7"), looks := true }, kinds := [], alts := [], laidByText := true, laidKinds := [.data, .data, .data, .sentinel], laidTests := true, laidLooks := .later }
def ArcBackUptoCardSaid : Prop := Claim7.holds Tryd.pinned (.plain (OpenSpec.upto arcBackSpec)) arcBackUptoCard

/-- THE SECOND FORM's CARD OF 'meridianlaw4.LightRounds'. -/
def lightRoundsUptoCard : Claim7 := { stood := { row := lightRoundsUptoRow, standIns := [], harness := (true, "7de4096efa696e8cb2e9b686ba81c08c63c717fb8e9dda66b3dbe80813bd9cc7"), looks := true }, kinds := [], alts := [], laidByText := true, laidKinds := [.handle, .sentinel, .sentinel, .sentinel, .sentinel, .sentinel, .sentinel, .sentinel, .sentinel, .sentinel, .sentinel], laidTests := true, laidLooks := .later }
def LightRoundsUptoCardSaid : Prop := Claim7.holds Tryd.pinned (.plain (OpenSpec.upto lightRoundsSpec)) lightRoundsUptoCard

/-- THE SECOND FORM's CARD OF 'meridianlaw4.FrameStacks'. -/
def frameStacksUptoCard : Claim7 := { stood := { row := frameStacksUptoRow, standIns := [], harness := (true, "7de4096efa696e8cb2e9b686ba81c08c63c717fb8e9dda66b3dbe80813bd9cc7"), looks := true }, kinds := [], alts := [], laidByText := true, laidKinds := [.handle, .sentinel, .sentinel, .sentinel, .sentinel, .sentinel, .sentinel, .sentinel, .sentinel, .sentinel, .sentinel], laidTests := true, laidLooks := .later }
def FrameStacksUptoCardSaid : Prop := Claim7.holds Tryd.pinned (.plain (OpenSpec.upto frameStacksSpec)) frameStacksUptoCard

/-- THE SECOND FORM's CARD OF 'meridianlaw1.TickTexts'. -/
def tickTextsUptoCard : Claim7 := { stood := { row := tickTextsUptoRow, standIns := [], harness := (true, "7de4096efa696e8cb2e9b686ba81c08c63c717fb8e9dda66b3dbe80813bd9cc7"), looks := true }, kinds := [], alts := [], laidByText := true, laidKinds := [.data, .data, .data, .handle, .sentinel, .sentinel, .sentinel, .sentinel, .sentinel, .sentinel, .sentinel, .sentinel, .sentinel, .sentinel], laidTests := true, laidLooks := .later }
def TickTextsUptoCardSaid : Prop := Claim7.holds Tryd.pinned (.plain (OpenSpec.upto tickTextsSpec)) tickTextsUptoCard

/-- THE SECOND FORM's CARD OF 'meridianlaw4.SpotsMoved'. -/
def spotsMovedUptoCard : Claim7 := { stood := { row := spotsMovedUptoRow, standIns := [], harness := (true, "7de4096efa696e8cb2e9b686ba81c08c63c717fb8e9dda66b3dbe80813bd9cc7"), looks := true }, kinds := [], alts := [], laidByText := true, laidKinds := [.sentinel, .sentinel], laidTests := true, laidLooks := .later }
def SpotsMovedUptoCardSaid : Prop := Claim7.holds Tryd.pinned (.plain (OpenSpec.upto spotsMovedSpec)) spotsMovedUptoCard

/-- THE SECOND FORM's CARD OF 'meridianlaw4.SpotsGround'. -/
def spotsGroundUptoCard : Claim7 := { stood := { row := spotsGroundUptoRow, standIns := [], harness := (true, "7de4096efa696e8cb2e9b686ba81c08c63c717fb8e9dda66b3dbe80813bd9cc7"), looks := true }, kinds := [], alts := [], laidByText := true, laidKinds := [.handle, .sentinel, .sentinel, .sentinel, .sentinel, .sentinel, .sentinel, .sentinel, .sentinel, .sentinel, .sentinel], laidTests := true, laidLooks := .later }
def SpotsGroundUptoCardSaid : Prop := Claim7.holds Tryd.pinned (.plain (OpenSpec.upto spotsGroundSpec)) spotsGroundUptoCard

/-- THE SECOND FORM's CARD OF 'meridianlaw4.SpotsFound'. -/
def spotsFoundUptoCard : Claim7 := { stood := { row := spotsFoundUptoRow, standIns := [], harness := (true, "7de4096efa696e8cb2e9b686ba81c08c63c717fb8e9dda66b3dbe80813bd9cc7"), looks := true }, kinds := [], alts := [], laidByText := true, laidKinds := [.handle, .sentinel, .sentinel, .sentinel, .sentinel, .sentinel, .sentinel, .sentinel, .sentinel, .sentinel, .sentinel], laidTests := true, laidLooks := .later }
def SpotsFoundUptoCardSaid : Prop := Claim7.holds Tryd.pinned (.plain (OpenSpec.upto spotsFoundSpec)) spotsFoundUptoCard
end Rows
end Go.Proofs.YtpkifhmnibepiaaDoor
