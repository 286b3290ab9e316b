/-
  DERIVED. GIVEN WITH THE SEED: THE CARDS: each row of YthbekddpnkammaaGreatDoorRows.lean that lists a variable, with what it lists TIED to the program's text (the seventh form; the later family's looks); each row that meets fmt, with fmt's text TOLD by the authors' own Lean function (tested against real Go, not proved from fmt's source: count such statements apart). THE CARD IS WHAT COUNTS. Prove the row's statement (the work); the ties are given (YthbekddpnkammaaGreatDoorTie.lean); close each card by the builder's one call (the guide's Derived/Test/ToyasCard.lean, 'card_holds'). Laid BY PROGRAM, IN A SANDBOX (cutbox-door.mjs). By AI agents, Wed Nov 11 2026. No macro, syntax, notation, axiom, sorry.
-/
import Derived.Test.YthbekddpnkammaaGreatDoorRows
import GoSem.ClaimSeven
namespace Go.Proofs.YthbekddpnkammaaGreatDoor
namespace Rows

/-- THE TIED CARD OF 'meridianlaw4.SpotsWide'. -/
def spotsWideCard : Claim7 := { stood := { row := spotsWideRow, standIns := [], harness := (true, "98fb9267313acf27c7265a7265a0d465628ed167cdcb29781787f07438f5b0a0"), looks := true }, kinds := [], alts := [], laidByText := true, laidKinds := [.handle, .sentinel, .sentinel, .sentinel, .sentinel, .sentinel, .sentinel, .sentinel, .sentinel, .sentinel, .sentinel], laidTests := true, laidLooks := .later }
def SpotsWideCardSaid : Prop := Claim7.holds Tryz.pinned (.plain (OpenSpec.ofChange spotsWideSpec)) spotsWideCard

/-- THE TIED CARD OF 'meridianlaw4.FrameFiles'. -/
def frameFilesCard : Claim7 := { stood := { row := frameFilesRow, standIns := [], harness := (true, "98fb9267313acf27c7265a7265a0d465628ed167cdcb29781787f07438f5b0a0"), looks := true }, kinds := [], alts := [], laidByText := true, laidKinds := [.data, .data, .data, .data, .handle, .sentinel, .sentinel, .sentinel, .sentinel, .sentinel, .sentinel, .sentinel, .sentinel, .sentinel, .sentinel, .sentinel, .sentinel, .pinned], laidTests := true, laidLooks := .later }
def FrameFilesCardSaid : Prop := Claim7.holds Tryz.pinned (.plain (OpenSpec.ofChange frameFilesSpec)) frameFilesCard

/-- THE TIED CARD OF 'meridianlaw4.FrameReads'. -/
def frameReadsCard : Claim7 := { stood := { row := frameReadsRow, standIns := [], harness := (true, "98fb9267313acf27c7265a7265a0d465628ed167cdcb29781787f07438f5b0a0"), looks := true }, kinds := [], alts := [], laidByText := true, laidKinds := [.data, .data, .data, .data, .handle, .sentinel, .sentinel, .sentinel, .sentinel, .sentinel, .sentinel, .sentinel, .sentinel, .sentinel, .sentinel, .sentinel, .sentinel, .pinned], laidTests := true, laidLooks := .later }
def FrameReadsCardSaid : Prop := Claim7.holds Tryz.pinned (.plain (OpenSpec.ofChange frameReadsSpec)) frameReadsCard

/-- THE SECOND FORM's CARD OF 'meridianlaw4.SpotsWide'. -/
def spotsWideUptoCard : Claim7 := { stood := { row := spotsWideUptoRow, standIns := [], harness := (true, "98fb9267313acf27c7265a7265a0d465628ed167cdcb29781787f07438f5b0a0"), looks := true }, kinds := [], alts := [], laidByText := true, laidKinds := [.handle, .sentinel, .sentinel, .sentinel, .sentinel, .sentinel, .sentinel, .sentinel, .sentinel, .sentinel, .sentinel], laidTests := true, laidLooks := .later }
def SpotsWideUptoCardSaid : Prop := Claim7.holds Tryz.pinned (.plain (OpenSpec.upto spotsWideSpec)) spotsWideUptoCard

/-- THE SECOND FORM's CARD OF 'meridianlaw4.FrameFiles'. -/
def frameFilesUptoCard : Claim7 := { stood := { row := frameFilesUptoRow, standIns := [], harness := (true, "98fb9267313acf27c7265a7265a0d465628ed167cdcb29781787f07438f5b0a0"), looks := true }, kinds := [], alts := [], laidByText := true, laidKinds := [.data, .data, .data, .data, .handle, .sentinel, .sentinel, .sentinel, .sentinel, .sentinel, .sentinel, .sentinel, .sentinel, .sentinel, .sentinel, .sentinel, .sentinel, .pinned], laidTests := true, laidLooks := .later }
def FrameFilesUptoCardSaid : Prop := Claim7.holds Tryz.pinned (.plain (OpenSpec.upto frameFilesSpec)) frameFilesUptoCard

/-- THE SECOND FORM's CARD OF 'meridianlaw4.FrameReads'. -/
def frameReadsUptoCard : Claim7 := { stood := { row := frameReadsUptoRow, standIns := [], harness := (true, "98fb9267313acf27c7265a7265a0d465628ed167cdcb29781787f07438f5b0a0"), looks := true }, kinds := [], alts := [], laidByText := true, laidKinds := [.data, .data, .data, .data, .handle, .sentinel, .sentinel, .sentinel, .sentinel, .sentinel, .sentinel, .sentinel, .sentinel, .sentinel, .sentinel, .sentinel, .sentinel, .pinned], laidTests := true, laidLooks := .later }
def FrameReadsUptoCardSaid : Prop := Claim7.holds Tryz.pinned (.plain (OpenSpec.upto frameReadsSpec)) frameReadsUptoCard
end Rows
end Go.Proofs.YthbekddpnkammaaGreatDoor
